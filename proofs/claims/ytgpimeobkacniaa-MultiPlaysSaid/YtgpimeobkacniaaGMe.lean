/-
  Chapter 24: the document's map in memory. Chapter 24: the document's less. Chapter 24: the document's Live. Chapter 24: the document's List. Chapter 24: a row's header stored. Chapter 24: the document's Set. Chapter 24: the document's Get, Ids. Chapter 24: the document's num, raw, Put.
-/
import Derived.Test.YtgpimeobkacniaaGMc
import Derived.Test.YtgpimeobkacniaaGMh
set_option linter.unusedVariables false
set_option linter.unusedSimpArgs false

namespace Go.Proofs.Ytgpimeobkacniaa
open Go.RowKit
namespace Mu
open Oct Ids Mp
open Mem (M It blk ids rows)
theorem tyR : St.Ty 51 34 wz := ⟨⟨_, Try.underlying51, rfl⟩, by kernel_rfl, by kernel_rfl⟩
theorem slR : SlT Try.prog 63 51 (.agg wz) 34 64 := SlT.mk' Try.underlying63 (by kernel_rfl) rfl (by omega)
abbrev mxc (lv gv : Value) : Obj := .cells #[lv, gv] 65
abbrev rX (v : Value) (X : List Wr) : It := rows 51 34 we v X
abbrev mxit (b : Nat) (lv gv : Value) (X : List Wr) (G : List Wd) : List It := [blk b (mxc lv gv), rX lv X, ids gv G]
def mxfoot (b : Nat) (lv gv : Value) (k : Nat) : Prop := k = b ∨ lv.ownBlock = some k ∨ gv.ownBlock = some k
/-- What the document's list is, as it lies. -/
structure MxAt (w : World) (b : Nat) (lv gv : Value) (X : List Wr) (G : List Wd) : Prop where
  all : M (mxfoot b lv gv) w w (mxit b lv gv X G)
theorem mxfoot_of {b : Nat} {lv gv : Value} {X : List Wr} {G : List Wd} {i : Nat} {x : It} (hi : (mxit b lv gv X G)[i]? = some x) {k : Nat} (hk : x.foot k) : mxfoot b lv gv k := by
  match i, hi with
  | 0, hi => cases hi; exact .inl hk
  | 1, hi => cases hi; exact .inr (.inl hk)
  | 2, hi => cases hi; exact .inr (.inr hk)
theorem mxfoot_to {b : Nat} {lv gv : Value} {X : List Wr} {G : List Wd} {k : Nat} (hk : mxfoot b lv gv k) : ∃ (i : Nat) (y : It), (mxit b lv gv X G)[i]? = some y ∧ y.foot k := by
  rcases hk with hk | hk | hk
  · exact ⟨0, _, rfl, hk⟩
  · exact ⟨1, _, rfl, hk⟩
  · exact ⟨2, _, rfl, hk⟩
theorem mkMx {F : Nat → Prop} {w0 w : World} {b : Nat} {lv gv : Value} {X : List Wr} {G : List Wd} (h : M F w0 w (mxit b lv gv X G)) : MxAt w b lv gv X G :=
  ⟨⟨h.all, h.dis, fun i x hi k hk => ⟨.inr (mxfoot_of hi hk), (h.rng i x hi k hk).2⟩, Keep.refl _ _⟩⟩
/-- The document's list as one thing among others. -/
def mxI (b : Nat) (lv gv : Value) (X : List Wr) (G : List Wd) : It := ⟨mxfoot b lv gv, fun w => MxAt w b lv gv X G, fun w w' S h k n =>
  ⟨⟨fun i x hi => x.stable w w' S (h.all.all i x hi) k (fun j hj => n j (mxfoot_of hi hj)), h.all.dis, fun i x hi j hj => ⟨.inr (mxfoot_of hi hj), Nat.lt_of_lt_of_le (h.all.rng i x hi j hj).2 k.size⟩, Keep.refl _ _⟩⟩⟩
section
variable {w w' : World} {b : Nat} {lv gv : Value} {X : List Wr} {G : List Wd}
theorem MxAt.calm (h : MxAt w b lv gv X G) (k : Keep (fun _ => False) w w') : MxAt w' b lv gv X G := (mxI b lv gv X G).stable w w' _ h k (fun _ _ h => h)
theorem MxAt.cells (h : MxAt w b lv gv X G) : w.cell? ⟨b, 0, none⟩ = some lv ∧ w.cell? ⟨b, 1, none⟩ = some gv :=
  ⟨h.all.cell 0 rfl 0 rfl, h.all.cell 0 rfl 1 rfl⟩
theorem MxAt.row (h : MxAt w b lv gv X G) : ∃ a c, lv = .slice a X.length c ∧ St.At 34 we w a X.length X := (show St.Own _ _ _ w lv X from h.all.get 1 rfl).any
theorem MxAt.gone (h : MxAt w b lv gv X G) : Ids.Own w gv G := h.all.get 2 rfl
end
/-- What a call makes of it. -/
structure MXTo (w w' : World) (b : Nat) (lv gv lv' gv' : Value) (X' : List Wr) (G' : List Wd) : Prop where
  sq : MxAt w' b lv' gv' X' G'
  keep : Keep (mxfoot b lv gv) w w'
  foot : ∀ k, mxfoot b lv' gv' k → mxfoot b lv gv k ∨ (w.heap.size ≤ k ∧ k < w'.heap.size)
theorem MXTo.of {w w' : World} {b : Nat} {lv gv lv' gv' : Value} {X' : List Wr} {G' : List Wd} (h : M (mxfoot b lv gv) w w' (mxit b lv' gv' X' G')) : MXTo w w' b lv gv lv' gv' X' G' := by
  refine ⟨mkMx h, h.keep, fun k hk => ?_⟩
  obtain ⟨i, y, hi, hy⟩ := mxfoot_to (X := X') (G := G') hk
  have := h.rng i y hi k hy
  rcases this.1 with h1 | h1
  · exact .inr ⟨h1, this.2⟩
  · exact .inl h1
theorem MXTo.calm {w w' : World} {b : Nat} {lv gv : Value} {X : List Wr} {G : List Wd} (h : MxAt w b lv gv X G) (k : Keep (fun _ => False) w w') : MXTo w w' b lv gv lv gv X G :=
  ⟨h.calm k, ⟨k.os, k.tape, k.output, k.size, fun j hj _ => k.block j hj (fun h => h)⟩, fun _ h => .inl h⟩
theorem M.mx {F : Nat → Prop} {w0 w w' : World} {it : List It} (h : M F w0 w it) (i : Nat) {b : Nat} {lv gv lv' gv' : Value} {X X' : List Wr} {G G' : List Wd} (hi : it[i]? = some (mxI b lv gv X G)) (t : MXTo w w' b lv gv lv' gv' X' G') : M F w0 w' (it.set i (mxI b lv' gv' X' G')) :=
  h.upd i hi t.keep (fun _ h => h) (y := mxI b lv' gv' X' G') t.sq t.foot
/-- A new one. -/
theorem mxNew (w : World) : MxAt (w.alloc (mxc (.slice none 0 0) (.slice none 0 0))) w.heap.size (.slice none 0 0) (.slice none 0 0) [] [] :=
  mkMx ((((M.start (fun _ => False) w).alloc (mxc (.slice none 0 0) (.slice none 0 0)) rfl).nilR 51 34 we).nilI)
theorem M.mxnew {F : Nat → Prop} {w0 w : World} {it : List It} (h : M F w0 w it) {b : Nat} (hb : w.heap.size = b) : M F w0 (w.alloc (mxc (.slice none 0 0) (.slice none 0 0))) (it ++ [mxI b (.slice none 0 0) (.slice none 0 0) [] []]) := by
  subst hb
  refine h.add (x := mxI w.heap.size (.slice none 0 0) (.slice none 0 0) [] []) ((Keep.refl _ _).alloc _) (mxNew w) (fun k hk => ?_)
  rcases hk with hk | hk | hk
  · subst hk; simp
  · simp [Value.ownBlock] at hk
  · simp [Value.ownBlock] at hk
end Mu
end Go.Proofs.Ytgpimeobkacniaa


namespace Go.Proofs.Ytgpimeobkacniaa
open Go.RowKit
namespace Mu
open Oct Ids Mp
open Mem (M It blk ids rows)
open Sq (at_load at_alloc at_store)
theorem ltW_c {x y : Wr} {c : Int} (hc : IdL.cmpL x.u y.u = c) : ltW x y ↔ c < 0 ∨ (c = 0 ∧ (bl x.k.toList y.k.toList = true ∨ ((x.k.toList == y.k.toList) = true ∧ bl x.v.toList y.v.toList = true))) := by
  subst hc
  unfold ltW
  refine or_congr_right (and_congr ⟨fun e => by rw [e]; exact IdL.cmpL_refl _, IdL.cmpL_zero _ _⟩ (or_congr_right (and_congr_left fun _ => ?_)))
  rw [beq_iff_eq]
  exact ⟨fun e => by rw [e], toList_inj⟩
set_option maxRecDepth 100000 in
set_option maxHeartbeats 4000000 in
theorem rowless_any (w : World) (x y : Wr) : Calls Try.prog 102 #[wv x, wv y] w fun e w' => (∃ r : Bool, e = .returned (.bool r) ∧ (r = true ↔ ltW x y)) ∧ Keep (fun _ => False) w w' := by
  have HM : Hid (M (fun _ => False) w _ [blk w.heap.size (.cells (we x).toArray 51), blk (w.heap.size + 1) (.cells (we y).toArray 51)]) := ((M.start _ w).alloc (.cells (we x).toArray 51) rfl).alloc (.cells (we y).toArray 51) (by simp)
  have HS : Hid (∀ w', M (fun _ => False) w w' [blk w.heap.size (.cells (we x).toArray 51), blk (w.heap.size + 1) (.cells (we y).toArray 51)] → w'.cell? ⟨w.heap.size, 32, none⟩ = some (.string x.k) ∧ w'.cell? ⟨w.heap.size, 33, none⟩ = some (.string x.v) ∧ w'.cell? ⟨w.heap.size + 1, 32, none⟩ = some (.string y.k) ∧ w'.cell? ⟨w.heap.size + 1, 33, none⟩ = some (.string y.v) ∧ Hid (w'.rangeAt w.heap.size 0 (x.u.map bv)) ∧ Hid (w'.rangeAt (w.heap.size + 1) 0 (y.u.map bv))) := fun w' h =>
    ⟨by have := rng_wk (h.range 0 rfl); rwa [Nat.zero_add] at this, by have := rng_wv (h.range 0 rfl); rwa [Nat.zero_add] at this, by have := rng_wk (h.range 1 rfl); rwa [Nat.zero_add] at this, by have := rng_wv (h.range 1 rfl); rwa [Nat.zero_add] at this, rng_wu (h.range 0 rfl), rng_wu (h.range 1 rfl)⟩
  have HXl : Hid (x.u.length = 32) := x.hu
  have HYl : Hid (y.u.length = 32) := y.hu
  obtain ⟨c, hc⟩ : ∃ c, IdL.cmpL x.u y.u = c := ⟨_, rfl⟩
  have HCm : Hid (∀ w, Calls Try.prog 54 #[idv x.u, idv y.u] w fun e w' => e = .returned (.int .i64 c) ∧ Keep (fun _ => False) w w') := fun w => by
    have := xcompare_any w x.u y.u x.hu y.hu
    rwa [hc] at this
  have HE : Hid (ltW x y ↔ c < 0 ∨ (c = 0 ∧ (bl x.k.toList y.k.toList = true ∨ ((x.k.toList == y.k.toList) = true ∧ bl x.v.toList y.v.toList = true)))) := ltW_c hc
  generalize x.k = xk at HS HE
  generalize y.k = yk at HS HE
  generalize x.v = xv at HS HE
  generalize y.v = yv at HS HE
  unfold wv
  generalize (we x).toArray = X at HM HS ⊢
  generalize (we y).toArray = Y at HM HS ⊢
  obtain ⟨RX, RY⟩ := (HS.out _ HM.out).2.2.2.2
  clear hc
  go_enter Try.func102, Try.ntmps102
  have hcs : c < 0 ∨ (¬ c < 0 ∧ c ≠ 0) ∨ (¬ c < 0 ∧ c = 0) := by omega
  rcases hcs with hcs | ⟨hcs, h0⟩ | ⟨hcs, h0⟩
  · go_wp2_with (first | ((with_reducible refine at_load 35 ?_); first | (refine Ids.wl_load rfl rfl rfl HXl.out RX.out ?_; simp only [Act.put, List.setIfInBounds_toArray, List.set_cons_zero, List.set_cons_succ]) | (refine Ids.wl_load rfl rfl rfl HYl.out RY.out ?_; simp only [Act.put, List.setIfInBounds_toArray, List.set_cons_zero, List.set_cons_succ])) | (go_at_call 54; refine (HCm.out _).mono ?_; rintro e w1 ⟨rfl, k1⟩; have HM : Hid _ := HM.out.calm k1; obtain ⟨a32, a33, b32, b33, _⟩ := HS.out _ HM.out; clear k1))
    go_ret
    exact ⟨⟨_, rfl, by rw [HE.out]; simp [hcs]⟩, HM.out.keep⟩
  · have h0' : (c == 0) = false := by simpa using h0
    go_wp2_with (first | ((with_reducible refine at_load 35 ?_); first | (refine Ids.wl_load rfl rfl rfl HXl.out RX.out ?_; simp only [Act.put, List.setIfInBounds_toArray, List.set_cons_zero, List.set_cons_succ]) | (refine Ids.wl_load rfl rfl rfl HYl.out RY.out ?_; simp only [Act.put, List.setIfInBounds_toArray, List.set_cons_zero, List.set_cons_succ])) | (go_at_call 54; refine (HCm.out _).mono ?_; rintro e w1 ⟨rfl, k1⟩; have HM : Hid _ := HM.out.calm k1; obtain ⟨a32, a33, b32, b33, _⟩ := HS.out _ HM.out; clear k1))
    go_ret
    exact ⟨⟨_, rfl, by rw [HE.out]; simp [hcs, h0]⟩, HM.out.keep⟩
  · have h0' : (c == 0) = true := by simpa using h0
    go_wp2_with (first | ((with_reducible refine at_load 35 ?_); first | (refine Ids.wl_load rfl rfl rfl HXl.out RX.out ?_; simp only [Act.put, List.setIfInBounds_toArray, List.set_cons_zero, List.set_cons_succ]) | (refine Ids.wl_load rfl rfl rfl HYl.out RY.out ?_; simp only [Act.put, List.setIfInBounds_toArray, List.set_cons_zero, List.set_cons_succ])) | (go_at_call 54; refine (HCm.out _).mono ?_; rintro e w1 ⟨rfl, k1⟩; have HM : Hid _ := HM.out.calm k1; obtain ⟨a32, a33, b32, b33, _⟩ := HS.out _ HM.out; clear k1))
    all_goals (try go_wp2)
    all_goals
      go_ret
      refine ⟨⟨_, rfl, ?_⟩, HM.out.keep⟩
      rw [HE.out]
      simp_all [bl]
end Mu
end Go.Proofs.Ytgpimeobkacniaa


namespace Go.Proofs.Ytgpimeobkacniaa
open Go.RowKit
namespace Mu
open Oct Ids Mp
open Mem (M It blk ids rows)
open Sq (at_load at_alloc at_store own_sl own_fm row0)
theorem equalIn_R (w : World) (x y : Wr) : (Op.equalIn 10000 51 (wv x) (wv y)).run Try.prog w = .ok (decide (x = y)) w := by
  have hS : Try.prog.underlying 51 = some (.struct (Try.prog.fieldsOf 51)) := by kernel_rfl
  have hp : Try.prog.stoodInHeld 51 = false := by kernel_rfl
  have u9 := Try.underlying9
  have p1 := part_w x
  have p2 := part_w y
  have k1 := part_k x
  have k2 := part_k y
  have v1 := part_v x
  have v2 := part_v y
  have q1 : ∀ w, (Op.equalIn 9999 35 (idv x.u) (idv y.u)).run Try.prog w = .ok (x.u == y.u) w := fun w => run_equalIn_bytes (P := Try.prog) w 9997 35 5 32 Try.underlying35 Try.underlying5 sz8 x.u y.u x.hu y.hu
  have e1 : ∀ w, (Op.equalIn 9999 9 (.string x.k) (.string y.k)).run Try.prog w = .ok (x.k.toList == y.k.toList) w := fun w => run_equalIn_string w 9998 _ x.k y.k u9
  have e2 : ∀ w, (Op.equalIn 9999 9 (.string x.v) (.string y.v)).run Try.prog w = .ok (x.v.toList == y.v.toList) w := fun w => run_equalIn_string w 9998 _ x.v y.v u9
  rw [← eqW_iff, show (10000 : Nat) = 9999 + 1 from rfl, run_equalIn_agg w 9999 51 _ _ hS hp]
  simp only [Program.fieldsOf, Try.underlying51]
  unfold eqW
  generalize (we x).toArray = X at *
  generalize (we y).toArray = Y at *
  generalize (x.k.toList == y.k.toList) = bk at *
  generalize (x.v.toList == y.v.toList) = bw at *
  generalize (x.u == y.u) = bu at *
  cases bk <;> cases bw <;> cases bu <;> simp [Op.eqFields, p1, p2, k1, k2, v1, v2, q1, e1, e2]
theorem eql_R (w : World) (x y : Wr) : Sem.run Try.prog (binOp .eql 51 (wv x) (wv y)) w = .ok (.bool (decide (x = y))) w := by
  rw [run_eql_struct, equalIn_R]
  rfl
section
variable {α : Type} {r : α → α → Prop}
/-- Put in its place. -/
theorem ins_pw (ht : ∀ a b c, r a b → r b c → r a c) (h3 : ∀ a b, r a b ∨ a = b ∨ r b a) {l : List α} (hl : l.Pairwise r) {x : α} {k : Nat} (h1 : ∀ (j : Nat) (y : α), j < k → l[j]? = some y → r y x) (h2 : l.length ≤ k ∨ ∃ y, l[k]? = some y ∧ ¬ r y x ∧ y ≠ x) : (l.take k ++ [x] ++ l.drop k).Pairwise r := by
  have hp : (l.take k ++ l.drop k).Pairwise r := by rw [List.take_append_drop]; exact hl
  rw [List.pairwise_append] at hp
  have ha : ∀ y ∈ l.take k, r y x := fun y hy => by
    obtain ⟨j, hj⟩ := List.getElem?_of_mem hy
    rw [List.getElem?_take] at hj
    split at hj
    · rename_i hlt
      exact h1 j y hlt hj
    · cases hj
  have hb : ∀ y ∈ l.drop k, r x y := fun y hy => by
    rcases h2 with h2 | ⟨z, hz, hn, hne⟩
    · rw [List.drop_eq_nil_of_le h2] at hy; cases hy
    · have hxz : r x z := by
        rcases h3 z x with h | h | h
        · exact absurd h hn
        · exact absurd h hne
        · exact h
      have e : l.drop k = z :: l.drop (k + 1) := by
        obtain ⟨g1, g2⟩ := List.getElem?_eq_some_iff.1 hz
        rw [← g2, List.getElem_cons_drop]
      rw [e] at hy hp
      rcases List.mem_cons.1 hy with rfl | hy
      · exact hxz
      · exact ht _ _ _ hxz ((List.pairwise_cons.1 hp.2.1).1 y hy)
  rw [List.append_assoc, List.pairwise_append]
  refine ⟨hp.1, ?_, fun y hy z hz => ?_⟩
  · rw [List.singleton_append, List.pairwise_cons]
    exact ⟨hb, hp.2.1⟩
  · rcases List.mem_append.1 hz with hz | hz
    · rw [List.mem_singleton.1 hz]; exact ha y hy
    · exact hp.2.2 y hy z hz
theorem ins_mem {l : List α} {x : α} {k : Nat} (y : α) : y ∈ l.take k ++ [x] ++ l.drop k ↔ y ∈ l ∨ y = x := by
  have : y ∈ l ↔ y ∈ l.take k ∨ y ∈ l.drop k := by rw [← List.mem_append, List.take_append_drop]
  rw [this, List.mem_append, List.mem_append, List.mem_singleton]
  constructor
  · rintro ((h | h) | h)
    · exact .inl (.inl h)
    · exact .inr h
    · exact .inl (.inr h)
  · rintro ((h | h) | h)
    · exact .inl (.inl h)
    · exact .inr h
    · exact .inl (.inr h)
theorem ins_len {l : List α} {x : α} {k : Nat} : (l.take k ++ [x] ++ l.drop k).length = l.length + 1 := by
  rw [List.length_append, List.length_append, List.length_take, List.length_drop]
  simp
  omega
end
theorem mem_take2 {L : List Wr} {i : Nat} {x : Wr} (hx : L[i]? = some x) (y : Wr) : y ∈ L.take (i + 1) ↔ y ∈ L.take i ∨ y = x := by
  rw [List.take_add_one, hx, List.mem_append]
  simp
/-- What Live comes to. -/
structure LivPost (w : World) (X : List Wr) (G : List Wd) (e : Ending) (w' : World) : Prop where
  ex : ∃ v out, e = .returned v ∧ M (fun _ => False) w w' [rX v out] ∧ out.Pairwise ltW ∧ (∀ x, x ∈ out ↔ x ∈ X ∧ x.u ∉ G) ∧ out.length ≤ X.length
/-- What holds behind the first k. -/
structure LivI (X : List Wr) (G : List Wd) (k : Nat) (out : List Wr) : Prop where
  pw : out.Pairwise ltW
  mem : ∀ x, x ∈ out ↔ x ∈ X.take k ∧ x.u ∉ G
  len : out.length ≤ k
theorem LivI.skip {X : List Wr} {G : List Wd} {k : Nat} {out : List Wr} (h : LivI X G k out) {x : Wr} (hx : X[k]? = some x) (hs : x.u ∈ G ∨ x ∈ out) : LivI X G (k + 1) out := by
  refine ⟨h.pw, fun y => ?_, Nat.le_succ_of_le h.len⟩
  rw [mem_take2 hx]
  constructor
  · intro h1
    exact ⟨.inl ((h.mem y).1 h1).1, ((h.mem y).1 h1).2⟩
  · rintro ⟨h1 | rfl, h2⟩
    · exact (h.mem y).2 ⟨h1, h2⟩
    · exact hs.resolve_left h2
theorem LivI.put {X : List Wr} {G : List Wd} {k : Nat} {out : List Wr} (h : LivI X G k out) {x : Wr} (hx : X[k]? = some x) (hg : x.u ∉ G) {j : Nat} (h1 : ∀ (i : Nat) (y : Wr), i < j → out[i]? = some y → ltW y x) (h2 : out.length ≤ j ∨ ∃ y, out[j]? = some y ∧ ¬ ltW y x ∧ y ≠ x) : LivI X G (k + 1) (out.take j ++ [x] ++ out.drop j) := by
  refine ⟨ins_pw (r := ltW) (fun _ _ _ => ltW_trans) ltW_tri h.pw h1 h2, fun y => ?_, by rw [ins_len]; exact Nat.succ_le_succ h.len⟩
  rw [ins_mem, mem_take2 hx, h.mem]
  constructor
  · rintro (h3 | rfl)
    · exact ⟨.inl h3.1, h3.2⟩
    · exact ⟨.inr rfl, hg⟩
  · rintro ⟨h3 | h3, h4⟩
    · exact .inl ⟨h3, h4⟩
    · exact .inr h3
set_option maxRecDepth 100000 in
set_option maxHeartbeats 16000000 in
theorem live_any (w : World) (b : Nat) (lv gv : Value) (X : List Wr) (G : List Wd) (h : MxAt w b lv gv X G) (hX : X.length ≤ 1000) (hG : G.length ≤ 1000) :
    Calls Try.prog 66 #[.pointer (some ⟨b, 0, none⟩)] w (LivPost w X G) := by
  obtain ⟨la, lc, e1, hrow⟩ := h.row
  obtain ⟨ga, gc, e2, hgat, _⟩ := h.gone.at
  subst e1 e2
  obtain ⟨n, hn⟩ : ∃ n, X.length = n := ⟨_, rfl⟩
  obtain ⟨g, hg⟩ : ∃ g, G.length = g := ⟨_, rfl⟩
  rw [hn] at h hX hrow
  rw [hg] at h hgat hG
  have HXs : Hid (MxAt w b (.slice la n lc) (.slice ga g gc) X G) := h
  have HRow : Hid (St.At 34 we w la n X) := hrow
  have HGat : Hid (At w ga g G) := hgat
  have Hn : Hid (X.length = n) := hn
  have HM : Hid (M (fun _ => False) w w [rX (.slice none 0 0) []]) := (M.start _ w).nilR 51 34 we
  clear h hrow hgat hn hg
  have c0 := HXs.out.cells.1
  go_enter Try.func66, Try.ntmps66
  go_wp2
  go_loopw [3, 4] (fun s3 s4 wr => ∃ (k : Nat) (v : Value) (out : List Wr), k ≤ n ∧ s3 = v ∧ s4 = .int .i64 k ∧ M (fun _ => False) w wr [rX v out] ∧ LivI X G k out) (fun _ s4 _ => n - (intOf s4).toNat)
  case atStart => exact ⟨0, _, [], Nat.zero_le _, rfl, by go_num, HM.out, List.Pairwise.nil, fun x => by simp, Nat.le_refl _⟩
  case round =>
    clear HM c0
    obtain ⟨k, v, out, hk, e3, rfl, hM, hI⟩ := hrel
    replace e3 := e3.symm
    subst e3
    have HM : Hid (M (fun _ => False) w wr [rX v out]) := hM
    have HI : Hid (LivI X G k out) := hI
    clear hM hI
    obtain ⟨va, vc, ev, _⟩ := (show St.Own 51 34 we wr v out from HM.out.get 0 rfl).any
    subst ev
    obtain ⟨m, hm⟩ : ∃ m, out.length = m := ⟨_, rfl⟩
    have Hm : Hid (out.length = m) := hm
    rw [hm] at HM ⊢
    clear hm
    have hmk : m ≤ k := by rw [← Hm.out]; exact HI.out.len
    obtain ⟨hnc, hcm, hfm⟩ := own_fm (show St.Own 51 34 we wr (.slice va m vc) out from HM.out.get 0 rfl)
    have Hf : Hid _ := hfm
    unfold maxLen at hcm
    clear hfm
    have c0 := (HXs.out.calm HM.out.keep).cells.1
    by_cases hlt : k < n
    · obtain ⟨x, hx⟩ : ∃ x, X[k]? = some x := ⟨_, List.getElem?_eq_getElem (by rw [Hn.out]; exact hlt)⟩
      have Hx : Hid (X[k]? = some x) := hx
      obtain ⟨g0, o0, e0, hb0, hr0⟩ := HRow.out.lay.resolve_left (by omega)
      subst e0
      have Rd : Hid (wr.rangeAt g0 (o0 + k * 34) (we x)) := HM.out.keep.range hb0 (fun h => h) (hr0 k x hx)
      have HU : Hid (x.u.length = 32) := x.hu
      have HM : Hid (M (fun _ => False) w _ [rX (.slice va m vc) out, blk wr.heap.size (.cells (we x).toArray 51)]) := HM.out.alloc (.cells (we x).toArray 51) rfl
      obtain ⟨ob, hob⟩ : ∃ n, wr.heap.size = n := ⟨_, rfl⟩
      have Hob : Hid (wr.heap.size = ob) := hob
      rw [hob] at HM
      clear hr0 hx hob
      go_wp2_with (first | ((with_reducible refine at_load 51 ?_); refine St.wl_load tyR rfl rfl rfl Rd.out (we_len x) ?_; simp only [Act.put, List.setIfInBounds_toArray, List.set_cons_zero, List.set_cons_succ]) | ((with_reducible refine at_alloc 51 ?_); refine St.wl_alloc tyR rfl rfl Hob.out ?_; simp only [Act.put, List.setIfInBounds_toArray, List.set_cons_zero, List.set_cons_succ]) | ((with_reducible refine at_store 51 ?_); refine St.wl_storeN (W := wr) tyR rfl rfl rfl rfl rfl Hob.out (show _ = Value.agg (we x).toArray from rfl) (we_sz _) rfl (encW.all _) ?_))
      clear c0
      have HM : Hid _ := HM.out.drew
      have c1 := (HXs.out.calm HM.out.keep).cells.2
      have RU : Hid _ := rng_wu (HM.out.range 1 rfl)
      have RX : Hid _ := HM.out.range 1 rfl
      have RY : Hid _ := HM.out.range 1 rfl
      refine Txt.wp_region_text (fun _ => True) [0, 0, 0, 1, 0, 1, 4] (by kernel_rfl) (by kernel_rfl) trivial ?_
      (repeat (first | (refine Txt.tl_pure (v := ?_) (by rfl) ?_ ?_; rotate_left; (focus (intro _; go_simp; try with_reducible rfl)); simp only [Act.put, List.setIfInBounds_toArray, List.set_cons_zero, List.set_cons_succ]) | (refine Txt.tl_skip (by rfl) trivial ?_; simp only [Act.put, List.setIfInBounds_toArray, List.set_cons_zero, List.set_cons_succ]) | (refine Txt.tl_load (v := ?_) (by rfl) (by rfl) (by rfl) (by kernel_rfl) ?_ ?_; rotate_left; (focus assumption); simp only [Act.put, List.setIfInBounds_toArray, List.set_cons_zero, List.set_cons_succ]) | (refine Txt.tl_rowN (n := 34) (ty := 51) (by rfl) (by rfl) (by rfl) RY.out (by kernel_rfl) (we_len _) ?_; simp only [Act.put, List.setIfInBounds_toArray, List.set_cons_zero, List.set_cons_succ]) | (refine Txt.tl_rowN (n := 34) (ty := 51) (by rfl) (by rfl) (by rfl) RX.out (by kernel_rfl) (we_len _) ?_; simp only [Act.put, List.setIfInBounds_toArray, List.set_cons_zero, List.set_cons_succ]) | (refine Txt.tl_rowN (n := 32) (ty := 35) (by rfl) (by rfl) (by rfl) RU.out (by kernel_rfl) (by rw [List.length_map]; exact HU.out) ?_; simp only [Act.put, List.setIfInBounds_toArray, List.set_cons_zero, List.set_cons_succ])))
      refine Txt.tl_call Try.func24 (by kernel_rfl) (by kernel_rfl) (by rfl) (by rfl) (by rfl) (xhas_any _ ga g gc G (HGat.out.calm HM.out.keep) (by omega) x.u x.hu) ?_
      rintro e w2 ⟨rfl, k2⟩
      have HM : Hid _ := HM.out.calm k2
      clear k2 c1 RU RX RY
      refine ⟨_, rfl, trivial, ?_⟩
      simp only [Act.put, List.setIfInBounds_toArray, List.set_cons_zero, List.set_cons_succ]
      by_cases hgx : x.u ∈ G
      · rw [decide_eq_true hgx]
        have HI2 : Hid _ := HI.out.skip Hx.out (.inl hgx)
        clear hgx
        (repeat (first | (refine Txt.tl_pure (v := ?_) (by rfl) ?_ ?_; rotate_left; (focus (intro _; go_simp; try with_reducible rfl)); simp only [Act.put, List.setIfInBounds_toArray, List.set_cons_zero, List.set_cons_succ]) | (refine Txt.tl_skip (by rfl) trivial ?_; simp only [Act.put, List.setIfInBounds_toArray, List.set_cons_zero, List.set_cons_succ])))
        refine Txt.tl_nil ?_
        go_wp2
        go_roundw
        case rel => exact ⟨k + 1, _, out, by omega, rfl, by go_num, HM.out.take 1, HI2.out⟩
        case measure => simp [intOf]; omega
      · rw [decide_eq_false hgx]
        have HGx : Hid (x.u ∉ G) := hgx
        clear hgx
        (repeat (first | (refine Txt.tl_pure (v := ?_) (by rfl) ?_ ?_; rotate_left; (focus (intro _; go_simp; try with_reducible rfl)); simp only [Act.put, List.setIfInBounds_toArray, List.set_cons_zero, List.set_cons_succ]) | (refine Txt.tl_skip (by rfl) trivial ?_; simp only [Act.put, List.setIfInBounds_toArray, List.set_cons_zero, List.set_cons_succ])))
        refine Txt.tl_nil ?_
        go_wp2
        go_loopw [6] (fun s6 wr => ∃ (j : Nat), j ≤ m ∧ s6 = .int .i64 j ∧ M (fun _ => False) w wr [rX (.slice va m vc) out, blk ob (.cells (we x).toArray 51)] ∧ (∀ (i : Nat) (y : Wr), i < j → out[i]? = some y → ltW y x)) (fun s6 _ => m - (intOf s6).toNat)
        case atStart => exact ⟨0, Nat.zero_le _, by go_num, HM.out, fun i y hi => absurd hi (Nat.not_lt_zero _)⟩
        case round =>
          clear HM
          obtain ⟨j, hj, rfl, hM, hB⟩ := hrel
          have HM : Hid (M (fun _ => False) w wr [rX (.slice va m vc) out, blk ob (.cells (we x).toArray 51)]) := hM
          have HB : Hid (∀ (i : Nat) (y : Wr), i < j → out[i]? = some y → ltW y x) := hB
          clear hM hB
          by_cases hlt2 : j < m
          · obtain ⟨y, hy⟩ : ∃ y, out[j]? = some y := ⟨_, List.getElem?_eq_getElem (by rw [Hm.out]; exact hlt2)⟩
            have Hy : Hid (out[j]? = some y) := hy
            obtain ⟨g1, o1, e1, _, _⟩ := (own_sl (show St.Own 51 34 we wr (.slice va m vc) out from HM.out.get 0 rfl)).2.lay.resolve_left (by omega)
            subst e1
            clear hy
            go_wp2
            have HM : Hid _ := HM.out.drew
            have RX : Hid _ := HM.out.range 1 rfl
            have RU : Hid _ := rng_wu (HM.out.range 1 rfl)
            have RY : Hid _ := ((own_sl (show St.Own 51 34 we _ (.slice (some ⟨g1, o1, none⟩) m vc) out from HM.out.get 0 rfl)).2.lay.resolve_left (by omega) |> fun ⟨_, _, e, _, hr⟩ => (by cases e; exact hr j y Hy.out : World.rangeAt _ g1 (o1 + j * 34) (we y)))
            by_cases hyx : ltW y x
            · have HLs : Hid (∀ w, Calls Try.prog 102 #[wv y, wv x] w fun e w' => e = .returned (.bool true) ∧ Keep (fun _ => False) w w') := fun w => (rowless_any w y x).mono fun e w' ⟨⟨r, he, hr⟩, hk⟩ => ⟨by rw [he, hr.2 hyx], hk⟩
              have HYx : Hid (ltW y x) := hyx
              clear hyx
              refine Txt.wp_region_text (fun _ => True) [0, 0, 0, 0, 0, 0, 0, 0, 1, 1, 4, 0] (by kernel_rfl) (by kernel_rfl) trivial ?_
              (repeat (first | (refine Txt.tl_pure (v := ?_) (by rfl) ?_ ?_; rotate_left; (focus (intro _; go_simp; try with_reducible rfl)); simp only [Act.put, List.setIfInBounds_toArray, List.set_cons_zero, List.set_cons_succ]) | (refine Txt.tl_skip (by rfl) trivial ?_; simp only [Act.put, List.setIfInBounds_toArray, List.set_cons_zero, List.set_cons_succ]) | (refine Txt.tl_load (v := ?_) (by rfl) (by rfl) (by rfl) (by kernel_rfl) ?_ ?_; rotate_left; (focus assumption); simp only [Act.put, List.setIfInBounds_toArray, List.set_cons_zero, List.set_cons_succ]) | (refine Txt.tl_rowN (n := 34) (ty := 51) (by rfl) (by rfl) (by rfl) RY.out (by kernel_rfl) (we_len _) ?_; simp only [Act.put, List.setIfInBounds_toArray, List.set_cons_zero, List.set_cons_succ]) | (refine Txt.tl_rowN (n := 34) (ty := 51) (by rfl) (by rfl) (by rfl) RX.out (by kernel_rfl) (we_len _) ?_; simp only [Act.put, List.setIfInBounds_toArray, List.set_cons_zero, List.set_cons_succ]) | (refine Txt.tl_rowN (n := 32) (ty := 35) (by rfl) (by rfl) (by rfl) RU.out (by kernel_rfl) (by rw [List.length_map]; exact HU.out) ?_; simp only [Act.put, List.setIfInBounds_toArray, List.set_cons_zero, List.set_cons_succ])))
              refine Txt.tl_call Try.func102 (by kernel_rfl) (by kernel_rfl) (by rfl) (by rfl) (by rfl) (HLs.out _) ?_
              rintro e w3 ⟨rfl, k3⟩
              have HM : Hid _ := HM.out.calm k3
              clear k3 RX RU RY
              refine ⟨_, rfl, trivial, ?_⟩
              simp only [Act.put, List.setIfInBounds_toArray, List.set_cons_zero, List.set_cons_succ]
              (repeat (first | (refine Txt.tl_pure (v := ?_) (by rfl) ?_ ?_; rotate_left; (focus (intro _; go_simp; try with_reducible rfl)); simp only [Act.put, List.setIfInBounds_toArray, List.set_cons_zero, List.set_cons_succ]) | (refine Txt.tl_skip (by rfl) trivial ?_; simp only [Act.put, List.setIfInBounds_toArray, List.set_cons_zero, List.set_cons_succ])))
              refine Txt.tl_nil ?_
              go_wp2
              go_roundw
              case rel =>
                refine ⟨j + 1, by omega, by go_num, HM.out, fun i z hi hz => ?_⟩
                rcases Nat.lt_or_ge i j with h1 | h1
                · exact HB.out i z h1 hz
                · obtain rfl : i = j := by omega
                  rw [Hy.out] at hz
                  rw [← Option.some.inj hz]
                  exact HYx.out
              case measure => simp [intOf]; omega
            · have HLs : Hid (∀ w, Calls Try.prog 102 #[wv y, wv x] w fun e w' => e = .returned (.bool false) ∧ Keep (fun _ => False) w w') := fun w => (rowless_any w y x).mono fun e w' ⟨⟨r, he, hr⟩, hk⟩ => ⟨by rw [he]; cases r; rfl; exact absurd (hr.1 rfl) hyx, hk⟩
              have HYx : Hid (¬ ltW y x) := hyx
              clear hyx
              refine Txt.wp_region_text (fun _ => True) [0, 0, 0, 0, 0, 0, 0, 0, 1, 1, 4, 0] (by kernel_rfl) (by kernel_rfl) trivial ?_
              (repeat (first | (refine Txt.tl_pure (v := ?_) (by rfl) ?_ ?_; rotate_left; (focus (intro _; go_simp; try with_reducible rfl)); simp only [Act.put, List.setIfInBounds_toArray, List.set_cons_zero, List.set_cons_succ]) | (refine Txt.tl_skip (by rfl) trivial ?_; simp only [Act.put, List.setIfInBounds_toArray, List.set_cons_zero, List.set_cons_succ]) | (refine Txt.tl_load (v := ?_) (by rfl) (by rfl) (by rfl) (by kernel_rfl) ?_ ?_; rotate_left; (focus assumption); simp only [Act.put, List.setIfInBounds_toArray, List.set_cons_zero, List.set_cons_succ]) | (refine Txt.tl_rowN (n := 34) (ty := 51) (by rfl) (by rfl) (by rfl) RY.out (by kernel_rfl) (we_len _) ?_; simp only [Act.put, List.setIfInBounds_toArray, List.set_cons_zero, List.set_cons_succ]) | (refine Txt.tl_rowN (n := 34) (ty := 51) (by rfl) (by rfl) (by rfl) RX.out (by kernel_rfl) (we_len _) ?_; simp only [Act.put, List.setIfInBounds_toArray, List.set_cons_zero, List.set_cons_succ]) | (refine Txt.tl_rowN (n := 32) (ty := 35) (by rfl) (by rfl) (by rfl) RU.out (by kernel_rfl) (by rw [List.length_map]; exact HU.out) ?_; simp only [Act.put, List.setIfInBounds_toArray, List.set_cons_zero, List.set_cons_succ])))
              refine Txt.tl_call Try.func102 (by kernel_rfl) (by kernel_rfl) (by rfl) (by rfl) (by rfl) (HLs.out _) ?_
              rintro e w3 ⟨rfl, k3⟩
              have HM : Hid _ := HM.out.calm k3
              clear k3 RX RU RY
              refine ⟨_, rfl, trivial, ?_⟩
              simp only [Act.put, List.setIfInBounds_toArray, List.set_cons_zero, List.set_cons_succ]
              (repeat (first | (refine Txt.tl_pure (v := ?_) (by rfl) ?_ ?_; rotate_left; (focus (intro _; go_simp; try with_reducible rfl)); simp only [Act.put, List.setIfInBounds_toArray, List.set_cons_zero, List.set_cons_succ]) | (refine Txt.tl_skip (by rfl) trivial ?_; simp only [Act.put, List.setIfInBounds_toArray, List.set_cons_zero, List.set_cons_succ])))
              refine Txt.tl_nil ?_
              go_wp2
              have HM : Hid _ := HM.out.drew
              have RX : Hid _ := HM.out.range 1 rfl
              have RU : Hid _ := rng_wu (HM.out.range 1 rfl)
              have RY : Hid _ := ((own_sl (show St.Own 51 34 we _ (.slice (some ⟨g1, o1, none⟩) m vc) out from HM.out.get 0 rfl)).2.lay.resolve_left (by omega) |> fun ⟨_, _, e, _, hr⟩ => (by cases e; exact hr j y Hy.out : World.rangeAt _ g1 (o1 + j * 34) (we y)))
              have hgd : ∀ (op : BinOp) (a b : Operand) (xs ys : Array Value) (w : World), Sem.run Try.prog (eqGuard op 51 a b (.agg xs) (.agg ys)) w = .ok () w := fun op a b xs ys w => run_eqGuard_agg w op 51 a b xs ys (by kernel_rfl)
              by_cases hyx2 : y = x
              · have hcmp : ∀ w, Sem.run Try.prog (binOp .eql 51 (wv y) (wv x)) w = .ok (.bool true) w := fun w => by rw [eql_R, decide_eq_true hyx2]
                have HI2 : Hid _ := HI.out.skip Hx.out (.inr (by rw [← hyx2]; exact List.mem_of_getElem? Hy.out))
                clear hyx2
                refine Txt.wp_region_text (fun _ => True) [0, 0, 0, 0, 0, 0, 0, 0, 1, 1, 0, 0] (by kernel_rfl) (by kernel_rfl) trivial ?_
                (repeat (first | (refine Txt.tl_pure (v := ?_) (by rfl) ?_ ?_; rotate_left; (focus (intro _; go_simp; try with_reducible rfl)); simp only [Act.put, List.setIfInBounds_toArray, List.set_cons_zero, List.set_cons_succ]) | (refine Txt.tl_skip (by rfl) trivial ?_; simp only [Act.put, List.setIfInBounds_toArray, List.set_cons_zero, List.set_cons_succ]) | (refine Txt.tl_load (v := ?_) (by rfl) (by rfl) (by rfl) (by kernel_rfl) ?_ ?_; rotate_left; (focus assumption); simp only [Act.put, List.setIfInBounds_toArray, List.set_cons_zero, List.set_cons_succ]) | (refine Txt.tl_rowN (n := 34) (ty := 51) (by rfl) (by rfl) (by rfl) RY.out (by kernel_rfl) (we_len _) ?_; simp only [Act.put, List.setIfInBounds_toArray, List.set_cons_zero, List.set_cons_succ]) | (refine Txt.tl_rowN (n := 34) (ty := 51) (by rfl) (by rfl) (by rfl) RX.out (by kernel_rfl) (we_len _) ?_; simp only [Act.put, List.setIfInBounds_toArray, List.set_cons_zero, List.set_cons_succ]) | (refine Txt.tl_rowN (n := 32) (ty := 35) (by rfl) (by rfl) (by rfl) RU.out (by kernel_rfl) (by rw [List.length_map]; exact HU.out) ?_; simp only [Act.put, List.setIfInBounds_toArray, List.set_cons_zero, List.set_cons_succ])))
                refine Txt.tl_nil ?_
                clear hcmp hgd RX RU RY
                go_wp2
                go_roundw
                case rel => exact ⟨k + 1, _, out, by omega, rfl, by go_num, HM.out.take 1, HI2.out⟩
                case measure => simp [intOf]; omega
              · have hcmp : ∀ w, Sem.run Try.prog (binOp .eql 51 (wv y) (wv x)) w = .ok (.bool false) w := fun w => by rw [eql_R, decide_eq_false hyx2]
                have HI2 : Hid (LivI X G (k + 1) (out.take j ++ [x] ++ out.drop j)) := HI.out.put Hx.out HGx.out HB.out (.inr ⟨y, Hy.out, HYx.out, hyx2⟩)
                clear hyx2
                refine Txt.wp_region_text (fun _ => True) [0, 0, 0, 0, 0, 0, 0, 0, 1, 1, 0, 0] (by kernel_rfl) (by kernel_rfl) trivial ?_
                (repeat (first | (refine Txt.tl_pure (v := ?_) (by rfl) ?_ ?_; rotate_left; (focus (intro _; go_simp; try with_reducible rfl)); simp only [Act.put, List.setIfInBounds_toArray, List.set_cons_zero, List.set_cons_succ]) | (refine Txt.tl_skip (by rfl) trivial ?_; simp only [Act.put, List.setIfInBounds_toArray, List.set_cons_zero, List.set_cons_succ]) | (refine Txt.tl_load (v := ?_) (by rfl) (by rfl) (by rfl) (by kernel_rfl) ?_ ?_; rotate_left; (focus assumption); simp only [Act.put, List.setIfInBounds_toArray, List.set_cons_zero, List.set_cons_succ]) | (refine Txt.tl_rowN (n := 34) (ty := 51) (by rfl) (by rfl) (by rfl) RY.out (by kernel_rfl) (we_len _) ?_; simp only [Act.put, List.setIfInBounds_toArray, List.set_cons_zero, List.set_cons_succ]) | (refine Txt.tl_rowN (n := 34) (ty := 51) (by rfl) (by rfl) (by rfl) RX.out (by kernel_rfl) (we_len _) ?_; simp only [Act.put, List.setIfInBounds_toArray, List.set_cons_zero, List.set_cons_succ]) | (refine Txt.tl_rowN (n := 32) (ty := 35) (by rfl) (by rfl) (by rfl) RU.out (by kernel_rfl) (by rw [List.length_map]; exact HU.out) ?_; simp only [Act.put, List.setIfInBounds_toArray, List.set_cons_zero, List.set_cons_succ])))
                refine Txt.tl_nil ?_
                clear hcmp hgd RX RU RY
                have hkc : (j : Int) ≤ (vc : Int) := by omega
                have hkc2 : ¬ vc = j := by omega
                have A2 : Hid (∀ w', St.Own 51 34 we w' (.slice (some ⟨g1, o1, none⟩) m vc) out → St.At 34 we w' (some ⟨g1, o1 + j * 34, none⟩) (m - j) (out.drop j)) := fun w' h => (own_sl h).2.tail j (by omega)
                go_wp2_with (first | (refine St.wl_build0 encW slR rfl rfl ?_; intro o1; clear o1; have HM : Hid _ := row0 HM.out (T := 51) encW rfl; simp only [Act.put, List.setIfInBounds_toArray, List.set_cons_zero, List.set_cons_succ]) | (refine St.wl_appR (els := ([] : List Wr)) encW slR (by decide) rfl rfl rfl (HM.out.get 2 rfl) rfl ((own_sl (HM.out.get 0 rfl)).2.cut _ (by omega)) (by simp <;> omega) ?_; intro v1 w3 h1 k1 g1; have HM : Hid _ := HM.out.appR 2 rfl h1 k1 g1; clear h1 k1 g1; simp only [Act.put, List.setIfInBounds_toArray, List.set_cons_zero, List.set_cons_succ]) | ((with_reducible refine at_load 51 ?_); refine St.wl_load tyR rfl rfl rfl (HM.out.range 1 rfl) (we_len x) ?_; simp only [Act.put, List.setIfInBounds_toArray, List.set_cons_zero, List.set_cons_succ]) | (refine St.wl_build slR (by decide) rfl rfl (we_len x) rfl ?_; have HM : Hid _ := HM.out.alloc (.cells (we x).toArray 51) rfl; simp only [Act.put, List.setIfInBounds_toArray, List.set_cons_zero, List.set_cons_succ]) | (refine St.wl_app1z encW slR (by decide) rfl rfl rfl (HM.out.get 2 rfl) rfl x rfl (HM.out.get 3 rfl) (by simp <;> omega) ?_; intro v2 w4 h2 k2 g2; have HM : Hid _ := HM.out.appR 2 rfl h2 k2 g2; clear h2 k2 g2; simp only [Act.put, List.setIfInBounds_toArray, List.set_cons_zero, List.set_cons_succ]) | (refine St.wl_appR encW slR (by decide) rfl rfl rfl (HM.out.get 2 rfl) rfl (A2.out _ (HM.out.get 0 rfl)) (by simp <;> omega) ?_; intro v3 w5 h3 k3 g3; have HM : Hid _ := HM.out.appR 2 rfl h3 k3 g3; clear h3 k3 g3; simp only [Act.put, List.setIfInBounds_toArray, List.set_cons_zero, List.set_cons_succ]))
                go_roundw
                case rel => exact ⟨k + 1, v3, _, by omega, rfl, by go_num, HM.out.sub _ [2] (by decide) rfl, HI2.out⟩
                case measure => simp [intOf]; omega
          · obtain rfl : m = j := by omega
            go_wp2
            have HM : Hid _ := HM.out.drew
            have RX : Hid _ := HM.out.range 1 rfl
            have RY : Hid _ := HM.out.range 1 rfl
            have RU : Hid _ := rng_wu (HM.out.range 1 rfl)
            refine Txt.wp_region_text (fun _ => True) [0, 0, 0, 0, 0, 0, 0, 0, 1, 1, 4, 0] (by kernel_rfl) (by kernel_rfl) trivial ?_
            (repeat (first | (refine Txt.tl_pure (v := ?_) (by rfl) ?_ ?_; rotate_left; (focus (intro _; go_simp; try with_reducible rfl)); simp only [Act.put, List.setIfInBounds_toArray, List.set_cons_zero, List.set_cons_succ]) | (refine Txt.tl_skip (by rfl) trivial ?_; simp only [Act.put, List.setIfInBounds_toArray, List.set_cons_zero, List.set_cons_succ]) | (refine Txt.tl_load (v := ?_) (by rfl) (by rfl) (by rfl) (by kernel_rfl) ?_ ?_; rotate_left; (focus assumption); simp only [Act.put, List.setIfInBounds_toArray, List.set_cons_zero, List.set_cons_succ]) | (refine Txt.tl_rowN (n := 34) (ty := 51) (by rfl) (by rfl) (by rfl) RY.out (by kernel_rfl) (we_len _) ?_; simp only [Act.put, List.setIfInBounds_toArray, List.set_cons_zero, List.set_cons_succ]) | (refine Txt.tl_rowN (n := 34) (ty := 51) (by rfl) (by rfl) (by rfl) RX.out (by kernel_rfl) (we_len _) ?_; simp only [Act.put, List.setIfInBounds_toArray, List.set_cons_zero, List.set_cons_succ]) | (refine Txt.tl_rowN (n := 32) (ty := 35) (by rfl) (by rfl) (by rfl) RU.out (by kernel_rfl) (by rw [List.length_map]; exact HU.out) ?_; simp only [Act.put, List.setIfInBounds_toArray, List.set_cons_zero, List.set_cons_succ])))
            refine Txt.tl_nil ?_
            clear RX RY RU
            go_wp2
            have HM : Hid _ := HM.out.drew
            have RX : Hid _ := HM.out.range 1 rfl
            have RY : Hid _ := HM.out.range 1 rfl
            have RU : Hid _ := rng_wu (HM.out.range 1 rfl)
            refine Txt.wp_region_text (fun _ => True) [0, 0, 0, 0, 0, 0, 0, 0, 1, 1, 0, 0] (by kernel_rfl) (by kernel_rfl) trivial ?_
            (repeat (first | (refine Txt.tl_pure (v := ?_) (by rfl) ?_ ?_; rotate_left; (focus (intro _; go_simp; try with_reducible rfl)); simp only [Act.put, List.setIfInBounds_toArray, List.set_cons_zero, List.set_cons_succ]) | (refine Txt.tl_skip (by rfl) trivial ?_; simp only [Act.put, List.setIfInBounds_toArray, List.set_cons_zero, List.set_cons_succ]) | (refine Txt.tl_load (v := ?_) (by rfl) (by rfl) (by rfl) (by kernel_rfl) ?_ ?_; rotate_left; (focus assumption); simp only [Act.put, List.setIfInBounds_toArray, List.set_cons_zero, List.set_cons_succ]) | (refine Txt.tl_rowN (n := 34) (ty := 51) (by rfl) (by rfl) (by rfl) RY.out (by kernel_rfl) (we_len _) ?_; simp only [Act.put, List.setIfInBounds_toArray, List.set_cons_zero, List.set_cons_succ]) | (refine Txt.tl_rowN (n := 34) (ty := 51) (by rfl) (by rfl) (by rfl) RX.out (by kernel_rfl) (we_len _) ?_; simp only [Act.put, List.setIfInBounds_toArray, List.set_cons_zero, List.set_cons_succ]) | (refine Txt.tl_rowN (n := 32) (ty := 35) (by rfl) (by rfl) (by rfl) RU.out (by kernel_rfl) (by rw [List.length_map]; exact HU.out) ?_; simp only [Act.put, List.setIfInBounds_toArray, List.set_cons_zero, List.set_cons_succ])))
            refine Txt.tl_nil ?_
            clear RX RY RU
            have HI2 : Hid (LivI X G (k + 1) (out.take m ++ [x] ++ out.drop m)) := HI.out.put Hx.out HGx.out HB.out (.inl (by rw [Hm.out]; exact Nat.le_refl _))
            have hdn : Hid (out.drop m = []) := List.drop_eq_nil_of_le (by rw [Hm.out]; exact Nat.le_refl _)
            rcases Hf.out with ⟨rfl, rfl, rfl⟩ | ⟨g1, rfl⟩
            · have A2 : Hid (∀ w', St.Own 51 34 we w' (.slice none 0 0) out → St.At 34 we w' none 0 (out.drop 0)) := fun w' h => by rw [hdn.out]; exact (own_sl h).2.empty
              go_wp2_with (first | (refine St.wl_build0 encW slR rfl rfl ?_; intro o1; clear o1; have HM : Hid _ := row0 HM.out (T := 51) encW rfl; simp only [Act.put, List.setIfInBounds_toArray, List.set_cons_zero, List.set_cons_succ]) | (refine St.wl_appR (els := ([] : List Wr)) encW slR (by decide) rfl rfl rfl (HM.out.get 2 rfl) rfl ((own_sl (HM.out.get 0 rfl)).2.cut _ (by omega)) (by simp <;> omega) ?_; intro v1 w3 h1 k1 g1; have HM : Hid _ := HM.out.appR 2 rfl h1 k1 g1; clear h1 k1 g1; simp only [Act.put, List.setIfInBounds_toArray, List.set_cons_zero, List.set_cons_succ]) | ((with_reducible refine at_load 51 ?_); refine St.wl_load tyR rfl rfl rfl (HM.out.range 1 rfl) (we_len x) ?_; simp only [Act.put, List.setIfInBounds_toArray, List.set_cons_zero, List.set_cons_succ]) | (refine St.wl_build slR (by decide) rfl rfl (we_len x) rfl ?_; have HM : Hid _ := HM.out.alloc (.cells (we x).toArray 51) rfl; simp only [Act.put, List.setIfInBounds_toArray, List.set_cons_zero, List.set_cons_succ]) | (refine St.wl_app1z encW slR (by decide) rfl rfl rfl (HM.out.get 2 rfl) rfl x rfl (HM.out.get 3 rfl) (by simp <;> omega) ?_; intro v2 w4 h2 k2 g2; have HM : Hid _ := HM.out.appR 2 rfl h2 k2 g2; clear h2 k2 g2; simp only [Act.put, List.setIfInBounds_toArray, List.set_cons_zero, List.set_cons_succ]) | (refine St.wl_appR encW slR (by decide) rfl rfl rfl (HM.out.get 2 rfl) rfl (A2.out _ (HM.out.get 0 rfl)) (by simp <;> omega) ?_; intro v3 w5 h3 k3 g3; have HM : Hid _ := HM.out.appR 2 rfl h3 k3 g3; clear h3 k3 g3; simp only [Act.put, List.setIfInBounds_toArray, List.set_cons_zero, List.set_cons_succ]))
              go_roundw
              case rel => exact ⟨k + 1, v3, _, by omega, rfl, by go_num, HM.out.sub _ [2] (by decide) rfl, HI2.out⟩
              case measure => simp [intOf]; omega
            · by_cases hkc : vc = m
              · subst hkc
                have A2 : Hid (∀ w', St.Own 51 34 we w' (.slice (some ⟨g1, 0, none⟩) vc vc) out → St.At 34 we w' (some ⟨g1, 0, none⟩) 0 (out.drop vc)) := fun w' h => by rw [hdn.out]; exact (own_sl h).2.empty
                go_wp2_with (first | (refine St.wl_build0 encW slR rfl rfl ?_; intro o1; clear o1; have HM : Hid _ := row0 HM.out (T := 51) encW rfl; simp only [Act.put, List.setIfInBounds_toArray, List.set_cons_zero, List.set_cons_succ]) | (refine St.wl_appR (els := ([] : List Wr)) encW slR (by decide) rfl rfl rfl (HM.out.get 2 rfl) rfl ((own_sl (HM.out.get 0 rfl)).2.cut _ (by omega)) (by simp <;> omega) ?_; intro v1 w3 h1 k1 g1; have HM : Hid _ := HM.out.appR 2 rfl h1 k1 g1; clear h1 k1 g1; simp only [Act.put, List.setIfInBounds_toArray, List.set_cons_zero, List.set_cons_succ]) | ((with_reducible refine at_load 51 ?_); refine St.wl_load tyR rfl rfl rfl (HM.out.range 1 rfl) (we_len x) ?_; simp only [Act.put, List.setIfInBounds_toArray, List.set_cons_zero, List.set_cons_succ]) | (refine St.wl_build slR (by decide) rfl rfl (we_len x) rfl ?_; have HM : Hid _ := HM.out.alloc (.cells (we x).toArray 51) rfl; simp only [Act.put, List.setIfInBounds_toArray, List.set_cons_zero, List.set_cons_succ]) | (refine St.wl_app1z encW slR (by decide) rfl rfl rfl (HM.out.get 2 rfl) rfl x rfl (HM.out.get 3 rfl) (by simp <;> omega) ?_; intro v2 w4 h2 k2 g2; have HM : Hid _ := HM.out.appR 2 rfl h2 k2 g2; clear h2 k2 g2; simp only [Act.put, List.setIfInBounds_toArray, List.set_cons_zero, List.set_cons_succ]) | (refine St.wl_appR encW slR (by decide) rfl rfl rfl (HM.out.get 2 rfl) rfl (A2.out _ (HM.out.get 0 rfl)) (by simp <;> omega) ?_; intro v3 w5 h3 k3 g3; have HM : Hid _ := HM.out.appR 2 rfl h3 k3 g3; clear h3 k3 g3; simp only [Act.put, List.setIfInBounds_toArray, List.set_cons_zero, List.set_cons_succ]))
                go_roundw
                case rel => exact ⟨k + 1, v3, _, by omega, rfl, by go_num, HM.out.sub _ [2] (by decide) rfl, HI2.out⟩
                case measure => simp [intOf]; omega
              · have hnc' : (m : Int) ≤ (vc : Int) := by omega
                have A2 : Hid (∀ w', St.Own 51 34 we w' (.slice (some ⟨g1, 0, none⟩) m vc) out → St.At 34 we w' (some ⟨g1, m * 34, none⟩) 0 (out.drop m)) := fun w' h => by rw [hdn.out]; exact (own_sl h).2.empty
                go_wp2_with (first | (refine St.wl_build0 encW slR rfl rfl ?_; intro o1; clear o1; have HM : Hid _ := row0 HM.out (T := 51) encW rfl; simp only [Act.put, List.setIfInBounds_toArray, List.set_cons_zero, List.set_cons_succ]) | (refine St.wl_appR (els := ([] : List Wr)) encW slR (by decide) rfl rfl rfl (HM.out.get 2 rfl) rfl ((own_sl (HM.out.get 0 rfl)).2.cut _ (by omega)) (by simp <;> omega) ?_; intro v1 w3 h1 k1 g1; have HM : Hid _ := HM.out.appR 2 rfl h1 k1 g1; clear h1 k1 g1; simp only [Act.put, List.setIfInBounds_toArray, List.set_cons_zero, List.set_cons_succ]) | ((with_reducible refine at_load 51 ?_); refine St.wl_load tyR rfl rfl rfl (HM.out.range 1 rfl) (we_len x) ?_; simp only [Act.put, List.setIfInBounds_toArray, List.set_cons_zero, List.set_cons_succ]) | (refine St.wl_build slR (by decide) rfl rfl (we_len x) rfl ?_; have HM : Hid _ := HM.out.alloc (.cells (we x).toArray 51) rfl; simp only [Act.put, List.setIfInBounds_toArray, List.set_cons_zero, List.set_cons_succ]) | (refine St.wl_app1z encW slR (by decide) rfl rfl rfl (HM.out.get 2 rfl) rfl x rfl (HM.out.get 3 rfl) (by simp <;> omega) ?_; intro v2 w4 h2 k2 g2; have HM : Hid _ := HM.out.appR 2 rfl h2 k2 g2; clear h2 k2 g2; simp only [Act.put, List.setIfInBounds_toArray, List.set_cons_zero, List.set_cons_succ]) | (refine St.wl_appR encW slR (by decide) rfl rfl rfl (HM.out.get 2 rfl) rfl (A2.out _ (HM.out.get 0 rfl)) (by simp <;> omega) ?_; intro v3 w5 h3 k3 g3; have HM : Hid _ := HM.out.appR 2 rfl h3 k3 g3; clear h3 k3 g3; simp only [Act.put, List.setIfInBounds_toArray, List.set_cons_zero, List.set_cons_succ]))
                go_roundw
                case rel => exact ⟨k + 1, v3, _, by omega, rfl, by go_num, HM.out.sub _ [2] (by decide) rfl, HI2.out⟩
                case measure => simp [intOf]; omega
    · obtain rfl : n = k := by omega
      have HE : Hid (X.take n = X) := List.take_of_length_le (by rw [Hn.out]; exact Nat.le_refl _)
      go_wp2
      go_ret
      exact ⟨_, out, rfl, HM.out, HI.out.pw, fun x => by rw [HI.out.mem, HE.out], by rw [Hn.out]; exact HI.out.len⟩
end Mu
end Go.Proofs.Ytgpimeobkacniaa


namespace Go.Proofs.Ytgpimeobkacniaa
open Go.RowKit
namespace Mu
open Oct Ids Mp
open Mem (M It blk ids rows)
open Sq (at_load at_alloc at_store own_sl own_fm row0 ex_buildL)
/-- What the document's List comes to. -/
structure XLiPost (w : World) (X : List Wr) (G : List Wd) (e : Ending) (w' : World) : Prop where
  ex : ∃ v l, e = .returned v ∧ M (fun _ => False) w w' [rP v l] ∧ l.Pairwise ltP ∧ (∀ p, p ∈ l ↔ ∃ x, (x ∈ X ∧ x.u ∉ G) ∧ kv x = p) ∧ l.length ≤ X.length
/-- What holds behind the first k. -/
structure PaI (D : List Wr) (k : Nat) (out : List Pr) : Prop where
  pw : out.Pairwise ltP
  mem : ∀ p, p ∈ out ↔ ∃ x ∈ D.take k, kv x = p
  len : out.length ≤ k
theorem mem_kv2 {D : List Wr} {k : Nat} {x : Wr} (hx : D[k]? = some x) (p : Pr) : (∃ y ∈ D.take (k + 1), kv y = p) ↔ (∃ y ∈ D.take k, kv y = p) ∨ p = kv x := by
  constructor
  · rintro ⟨y, hy, rfl⟩
    rcases (mem_take2 hx y).1 hy with h | rfl
    · exact .inl ⟨y, h, rfl⟩
    · exact .inr rfl
  · rintro (⟨y, hy, rfl⟩ | rfl)
    · exact ⟨y, (mem_take2 hx y).2 (.inl hy), rfl⟩
    · exact ⟨x, (mem_take2 hx x).2 (.inr rfl), rfl⟩
theorem PaI.skip {D : List Wr} {k : Nat} {out : List Pr} (h : PaI D k out) {x : Wr} (hx : D[k]? = some x) (hs : kv x ∈ out) : PaI D (k + 1) out := by
  refine ⟨h.pw, fun p => ?_, Nat.le_succ_of_le h.len⟩
  rw [mem_kv2 hx, ← h.mem]
  exact ⟨.inl, fun h1 => h1.elim id (fun e => by rw [e]; exact hs)⟩
theorem PaI.put {D : List Wr} {k : Nat} {out : List Pr} (h : PaI D k out) {x : Wr} (hx : D[k]? = some x) {j : Nat} (h1 : ∀ (i : Nat) (y : Pr), i < j → out[i]? = some y → ltP y (kv x)) (h2 : out.length ≤ j ∨ ∃ y, out[j]? = some y ∧ ¬ ltP y (kv x) ∧ y ≠ kv x) : PaI D (k + 1) (out.take j ++ [kv x] ++ out.drop j) := by
  refine ⟨ins_pw (r := ltP) (fun _ _ _ => ltP_trans) ltP_tri h.pw h1 h2, fun p => ?_, by rw [ins_len]; exact Nat.succ_le_succ h.len⟩
  rw [ins_mem, mem_kv2 hx, h.mem]
theorem ltP_c {x y : Pr} : ltP x y ↔ Op.bytesLess x.1.toList y.1.toList = true ∨ ((x.1.toList == y.1.toList) = true ∧ Op.bytesLess x.2.toList y.2.toList = true) := by
  unfold ltP
  refine or_congr_right (and_congr_left fun _ => ?_)
  rw [beq_iff_eq]
  exact ⟨fun e => by rw [e], toList_inj⟩
theorem prc {w : World} {b o : Nat} {p : Pr} (h : w.rangeAt b o (pr p)) : w.cell? ⟨b, o, none⟩ = some (.string p.1) ∧ w.cell? ⟨b, o + 1, none⟩ = some (.string p.2) := ⟨h 0 _ rfl, h 1 _ rfl⟩
set_option maxRecDepth 100000 in
set_option maxHeartbeats 16000000 in
theorem xlist_any (w : World) (b : Nat) (lv gv : Value) (X : List Wr) (G : List Wd) (h : MxAt w b lv gv X G) (hX : X.length ≤ 1000) (hG : G.length ≤ 1000) :
    Calls Try.prog 33 #[.pointer (some ⟨b, 0, none⟩)] w (XLiPost w X G) := by
  have HLv : Hid (Calls Try.prog 66 #[.pointer (some ⟨b, 0, none⟩)] w (LivPost w X G)) := live_any w b lv gv X G h hX hG
  have HXl : Hid (X.length ≤ 1000) := hX
  clear h hX hG
  go_enter Try.func33, Try.ntmps33
  go_wp2_with (first | (go_at_call 66; refine HLv.out.mono ?_; rintro e w1 ⟨v1, D, rfl, m1, hp1, hm1, hl1⟩; obtain ⟨la, lc, el, _⟩ := (show St.Own 51 34 we w1 v1 D from m1.get 0 rfl).any; subst el; have HM : Hid (M (fun _ => False) w w1 [rX (.slice la D.length lc) D]) := m1; have HDm : Hid (∀ x, x ∈ D ↔ x ∈ X ∧ x.u ∉ G) := hm1; have HDl : Hid (D.length ≤ X.length) := hl1; clear m1 hp1 hm1 hl1; obtain ⟨n, hn⟩ : ∃ n, D.length = n := ⟨_, rfl⟩; have Hn : Hid (D.length = n) := hn; rw [hn] at HM ⊢; clear hn))
  have hn1 : n ≤ 1000 := by have := HXl.out; have := Hn.out; have := HDl.out; omega
  have HM : Hid (M (fun _ => False) w w1 [rX (.slice la n lc) D, rP (.slice none 0 0) []]) := HM.out.nilR 92 2 pr
  go_loopw [3, 5] (fun s3 s5 wr => ∃ (k : Nat) (v : Value) (out : List Pr), k ≤ n ∧ s3 = v ∧ s5 = .int .i64 k ∧ M (fun _ => False) w wr [rX (.slice la n lc) D, rP v out] ∧ PaI D k out) (fun _ s5 _ => n - (intOf s5).toNat)
  case atStart => exact ⟨0, _, [], Nat.zero_le _, rfl, by go_num, HM.out, List.Pairwise.nil, fun x => by simp, Nat.le_refl _⟩
  case round =>
    clear HM
    obtain ⟨k, v, out, hk, e3, rfl, hM, hI⟩ := hrel
    replace e3 := e3.symm
    subst e3
    have HM : Hid (M (fun _ => False) w wr [rX (.slice la n lc) D, rP v out]) := hM
    have HI : Hid (PaI D k out) := hI
    clear hM hI
    obtain ⟨va, vc, ev, _⟩ := (show OwnP wr v out from HM.out.get 1 rfl).any
    subst ev
    obtain ⟨m, hm⟩ : ∃ m, out.length = m := ⟨_, rfl⟩
    have Hm : Hid (out.length = m) := hm
    rw [hm] at HM ⊢
    clear hm
    have hmk : m ≤ k := by rw [← Hm.out]; exact HI.out.len
    obtain ⟨hnc, hcm, hfm⟩ := own_fm (show OwnP wr (.slice va m vc) out from HM.out.get 1 rfl)
    have Hf : Hid _ := hfm
    unfold maxLen at hcm
    clear hfm
    by_cases hlt : k < n
    · obtain ⟨x, hx⟩ : ∃ x, D[k]? = some x := ⟨_, List.getElem?_eq_getElem (by rw [Hn.out]; exact hlt)⟩
      have Hx : Hid (D[k]? = some x) := hx
      obtain ⟨g0, o0, e0, _, _⟩ := (own_sl (show St.Own 51 34 we wr (.slice la n lc) D from HM.out.get 0 rfl)).2.lay.resolve_left (by omega)
      subst e0
      clear hx
      go_wp2
      have HM : Hid _ := HM.out.drew
      have Rd : Hid _ := ((own_sl (show St.Own 51 34 we _ (.slice (some ⟨g0, o0, none⟩) n lc) D from HM.out.get 0 rfl)).2.lay.resolve_left (by omega) |> fun ⟨_, _, e, _, hr⟩ => (by cases e; exact hr k x Hx.out : World.rangeAt _ g0 (o0 + k * 34) (we x)))
      have d32 := rng_wk Rd.out
      have d33 := rng_wv Rd.out
      obtain ⟨p, hp⟩ : ∃ p, kv x = p := ⟨_, rfl⟩
      have Hp : Hid (kv x = p) := hp
      rw [show x.k = p.1 by rw [← hp]; rfl] at d32
      rw [show x.v = p.2 by rw [← hp]; rfl] at d33
      clear hp Rd
      refine Txt.wp_region_text (fun _ => True) [0, 0, 0, 0, 1, 0, 0, 0, 0, 1, 0, 3, 4] (by kernel_rfl) (by kernel_rfl) trivial ?_
      generalize hW6 : wr.drew = W6 at HM d32 d33 ⊢
      have HW6 : Hid (wr.drew = W6) := hW6
      clear hW6
      obtain ⟨ob, hob⟩ : ∃ n, W6.heap.size = n := ⟨_, rfl⟩
      have Hob : Hid (W6.heap.size = ob) := hob
      clear hob
      (repeat (first | (refine Txt.tl_pure (v := ?_) (by rfl) ?_ ?_; rotate_left; (focus (intro _; go_simp; try with_reducible rfl)); simp only [Act.put, List.setIfInBounds_toArray, List.set_cons_zero, List.set_cons_succ]) | (refine Txt.tl_skip (by rfl) trivial ?_; simp only [Act.put, List.setIfInBounds_toArray, List.set_cons_zero, List.set_cons_succ]) | (refine Txt.tl_load (v := ?_) (by rfl) (by rfl) (by rfl) (by kernel_rfl) ?_ ?_; rotate_left; (focus assumption); simp only [Act.put, List.setIfInBounds_toArray, List.set_cons_zero, List.set_cons_succ])))
      refine Txt.tl_alloc (by rfl) (St.wp_alloc tyPr rfl ?_)
      rw [Hob.out]
      go_simp
      first | refine ⟨⟨Txt.Le.alloc _ _, trivial⟩, ?_⟩ | refine ⟨Txt.Le.alloc _ _, ?_⟩
      refine Txt.tl_loud (by rfl) (St.wp_storeN (W := W6) tyPr rfl rfl rfl rfl Hob.out (show _ = Value.agg (pr p).toArray from rfl) rfl rfl (encPr.all p) ?_)
      have HM : Hid (M (fun _ => False) w _ [rX (.slice (some ⟨g0, o0, none⟩) n lc) D, rP (.slice va m vc) out, blk ob (.cells (pr p).toArray 92)]) := HM.out.alloc (.cells (pr p).toArray 92) Hob.out
      refine ⟨trivial, ?_⟩
      clear d32 d33
      refine Txt.tl_nil ?_
      go_wp2
      go_loopw [7] (fun s7 wr => ∃ (j : Nat), j ≤ m ∧ s7 = .int .i64 j ∧ M (fun _ => False) w wr [rX (.slice (some ⟨g0, o0, none⟩) n lc) D, rP (.slice va m vc) out, blk ob (.cells (pr p).toArray 92)] ∧ (∀ (i : Nat) (y : Pr), i < j → out[i]? = some y → ltP y p)) (fun s7 _ => m - (intOf s7).toNat)
      case atStart => exact ⟨0, Nat.zero_le _, by go_num, HM.out, fun i y hi => absurd hi (Nat.not_lt_zero _)⟩
      case round =>
        clear HM
        obtain ⟨j, hj, rfl, hM, hB⟩ := hrel
        have HM : Hid (M (fun _ => False) w wr [rX (.slice (some ⟨g0, o0, none⟩) n lc) D, rP (.slice va m vc) out, blk ob (.cells (pr p).toArray 92)]) := hM
        have HB : Hid (∀ (i : Nat) (y : Pr), i < j → out[i]? = some y → ltP y p) := hB
        clear hM hB
        by_cases hlt2 : j < m
        · obtain ⟨y, hy⟩ : ∃ y, out[j]? = some y := ⟨_, List.getElem?_eq_getElem (by rw [Hm.out]; exact hlt2)⟩
          have Hy : Hid (out[j]? = some y) := hy
          obtain ⟨g1, o1, e1, _, _⟩ := (own_sl (show OwnP wr (.slice va m vc) out from HM.out.get 1 rfl)).2.lay.resolve_left (by omega)
          subst e1
          clear hy
          go_wp2
          have HM : Hid _ := HM.out.drew
          have RY : Hid _ := ((own_sl (show OwnP _ (.slice (some ⟨g1, o1, none⟩) m vc) out from HM.out.get 1 rfl)).2.lay.resolve_left (by omega) |> fun ⟨_, _, e, _, hr⟩ => (by cases e; exact hr j y Hy.out : World.rangeAt _ g1 (o1 + j * 2) (pr y)))
          obtain ⟨d0, d1⟩ := prc RY.out
          obtain ⟨e0, e1⟩ := prc (HM.out.range 2 rfl)
          simp only [Nat.zero_add] at e1
          clear RY
          obtain ⟨b1, h1⟩ : ∃ b1, Op.bytesLess y.1.toList p.1.toList = b1 := ⟨_, rfl⟩
          obtain ⟨b2, h2⟩ : ∃ b2, (y.1.toList == p.1.toList) = b2 := ⟨_, rfl⟩
          obtain ⟨b3, h3⟩ : ∃ b3, Op.bytesLess y.2.toList p.2.toList = b3 := ⟨_, rfl⟩
          have HLt : Hid (ltP y p ↔ b1 = true ∨ (b2 = true ∧ b3 = true)) := by
            show _ ↔ _
            rw [ltP_c, h1, h2, h3]
          cases b1 with
          | true =>
            refine Txt.wp_region_text (fun _ => True) [0, 0, 0, 0, 0, 0, 0, 0, 0, 1, 0, 1, 0, 0, 0, 0, 0, 0, 1, 0, 1, 0, 0, 0, 0, 0, 0, 1, 0, 1, 0, 0, 0, 0] (by kernel_rfl) (by kernel_rfl) trivial ?_
            (repeat (first | (refine Txt.tl_pure (v := ?_) (by rfl) ?_ ?_; rotate_left; (focus (intro _; go_simp; try with_reducible rfl)); simp only [Act.put, List.setIfInBounds_toArray, List.set_cons_zero, List.set_cons_succ]) | (refine Txt.tl_skip (by rfl) trivial ?_; simp only [Act.put, List.setIfInBounds_toArray, List.set_cons_zero, List.set_cons_succ]) | (refine Txt.tl_load (v := ?_) (by rfl) (by rfl) (by rfl) (by kernel_rfl) ?_ ?_; rotate_left; (focus assumption); simp only [Act.put, List.setIfInBounds_toArray, List.set_cons_zero, List.set_cons_succ])))
            try rw [h1]
            (repeat (first | (refine Txt.tl_pure (v := ?_) (by rfl) ?_ ?_; rotate_left; (focus (intro _; go_simp; try with_reducible rfl)); simp only [Act.put, List.setIfInBounds_toArray, List.set_cons_zero, List.set_cons_succ]) | (refine Txt.tl_skip (by rfl) trivial ?_; simp only [Act.put, List.setIfInBounds_toArray, List.set_cons_zero, List.set_cons_succ]) | (refine Txt.tl_load (v := ?_) (by rfl) (by rfl) (by rfl) (by kernel_rfl) ?_ ?_; rotate_left; (focus assumption); simp only [Act.put, List.setIfInBounds_toArray, List.set_cons_zero, List.set_cons_succ])))
            refine Txt.tl_nil ?_
            have HYx : Hid (ltP y p) := HLt.out.2 (by simp)
            clear h1 h2 h3 d0 d1 e0 e1
            go_wp2
            go_roundw
            case rel =>
              refine ⟨j + 1, by omega, by go_num, HM.out, fun i z hi hz => ?_⟩
              rcases Nat.lt_or_ge i j with h1 | h1
              · exact HB.out i z h1 hz
              · obtain rfl : i = j := by omega
                rw [Hy.out] at hz
                rw [← Option.some.inj hz]
                exact HYx.out
            case measure => simp [intOf]; omega
          | false =>
            cases b2 with
            | true =>
              cases b3 with
              | true =>
                refine Txt.wp_region_text (fun _ => True) [0, 0, 0, 0, 0, 0, 0, 0, 0, 1, 0, 1, 0, 0, 0, 0, 0, 0, 1, 0, 1, 0, 0, 0, 0, 0, 0, 1, 0, 1, 0, 0, 0, 0] (by kernel_rfl) (by kernel_rfl) trivial ?_
                (repeat (first | (refine Txt.tl_pure (v := ?_) (by rfl) ?_ ?_; rotate_left; (focus (intro _; go_simp; try with_reducible rfl)); simp only [Act.put, List.setIfInBounds_toArray, List.set_cons_zero, List.set_cons_succ]) | (refine Txt.tl_skip (by rfl) trivial ?_; simp only [Act.put, List.setIfInBounds_toArray, List.set_cons_zero, List.set_cons_succ]) | (refine Txt.tl_load (v := ?_) (by rfl) (by rfl) (by rfl) (by kernel_rfl) ?_ ?_; rotate_left; (focus assumption); simp only [Act.put, List.setIfInBounds_toArray, List.set_cons_zero, List.set_cons_succ])))
                try rw [h1]
                (repeat (first | (refine Txt.tl_pure (v := ?_) (by rfl) ?_ ?_; rotate_left; (focus (intro _; go_simp; try with_reducible rfl)); simp only [Act.put, List.setIfInBounds_toArray, List.set_cons_zero, List.set_cons_succ]) | (refine Txt.tl_skip (by rfl) trivial ?_; simp only [Act.put, List.setIfInBounds_toArray, List.set_cons_zero, List.set_cons_succ]) | (refine Txt.tl_load (v := ?_) (by rfl) (by rfl) (by rfl) (by kernel_rfl) ?_ ?_; rotate_left; (focus assumption); simp only [Act.put, List.setIfInBounds_toArray, List.set_cons_zero, List.set_cons_succ])))
                try rw [h2]
                (repeat (first | (refine Txt.tl_pure (v := ?_) (by rfl) ?_ ?_; rotate_left; (focus (intro _; go_simp; try with_reducible rfl)); simp only [Act.put, List.setIfInBounds_toArray, List.set_cons_zero, List.set_cons_succ]) | (refine Txt.tl_skip (by rfl) trivial ?_; simp only [Act.put, List.setIfInBounds_toArray, List.set_cons_zero, List.set_cons_succ]) | (refine Txt.tl_load (v := ?_) (by rfl) (by rfl) (by rfl) (by kernel_rfl) ?_ ?_; rotate_left; (focus assumption); simp only [Act.put, List.setIfInBounds_toArray, List.set_cons_zero, List.set_cons_succ])))
                try rw [h3]
                (repeat (first | (refine Txt.tl_pure (v := ?_) (by rfl) ?_ ?_; rotate_left; (focus (intro _; go_simp; try with_reducible rfl)); simp only [Act.put, List.setIfInBounds_toArray, List.set_cons_zero, List.set_cons_succ]) | (refine Txt.tl_skip (by rfl) trivial ?_; simp only [Act.put, List.setIfInBounds_toArray, List.set_cons_zero, List.set_cons_succ]) | (refine Txt.tl_load (v := ?_) (by rfl) (by rfl) (by rfl) (by kernel_rfl) ?_ ?_; rotate_left; (focus assumption); simp only [Act.put, List.setIfInBounds_toArray, List.set_cons_zero, List.set_cons_succ])))
                refine Txt.tl_nil ?_
                have HYx : Hid (ltP y p) := HLt.out.2 (by simp)
                clear h1 h2 h3 d0 d1 e0 e1
                go_wp2
                go_roundw
                case rel =>
                  refine ⟨j + 1, by omega, by go_num, HM.out, fun i z hi hz => ?_⟩
                  rcases Nat.lt_or_ge i j with h1 | h1
                  · exact HB.out i z h1 hz
                  · obtain rfl : i = j := by omega
                    rw [Hy.out] at hz
                    rw [← Option.some.inj hz]
                    exact HYx.out
                case measure => simp [intOf]; omega
              | false =>
                refine Txt.wp_region_text (fun _ => True) [0, 0, 0, 0, 0, 0, 0, 0, 0, 1, 0, 1, 0, 0, 0, 0, 0, 0, 1, 0, 1, 0, 0, 0, 0, 0, 0, 1, 0, 1, 0, 0, 0, 0] (by kernel_rfl) (by kernel_rfl) trivial ?_
                (repeat (first | (refine Txt.tl_pure (v := ?_) (by rfl) ?_ ?_; rotate_left; (focus (intro _; go_simp; try with_reducible rfl)); simp only [Act.put, List.setIfInBounds_toArray, List.set_cons_zero, List.set_cons_succ]) | (refine Txt.tl_skip (by rfl) trivial ?_; simp only [Act.put, List.setIfInBounds_toArray, List.set_cons_zero, List.set_cons_succ]) | (refine Txt.tl_load (v := ?_) (by rfl) (by rfl) (by rfl) (by kernel_rfl) ?_ ?_; rotate_left; (focus assumption); simp only [Act.put, List.setIfInBounds_toArray, List.set_cons_zero, List.set_cons_succ])))
                try rw [h1]
                (repeat (first | (refine Txt.tl_pure (v := ?_) (by rfl) ?_ ?_; rotate_left; (focus (intro _; go_simp; try with_reducible rfl)); simp only [Act.put, List.setIfInBounds_toArray, List.set_cons_zero, List.set_cons_succ]) | (refine Txt.tl_skip (by rfl) trivial ?_; simp only [Act.put, List.setIfInBounds_toArray, List.set_cons_zero, List.set_cons_succ]) | (refine Txt.tl_load (v := ?_) (by rfl) (by rfl) (by rfl) (by kernel_rfl) ?_ ?_; rotate_left; (focus assumption); simp only [Act.put, List.setIfInBounds_toArray, List.set_cons_zero, List.set_cons_succ])))
                try rw [h2]
                (repeat (first | (refine Txt.tl_pure (v := ?_) (by rfl) ?_ ?_; rotate_left; (focus (intro _; go_simp; try with_reducible rfl)); simp only [Act.put, List.setIfInBounds_toArray, List.set_cons_zero, List.set_cons_succ]) | (refine Txt.tl_skip (by rfl) trivial ?_; simp only [Act.put, List.setIfInBounds_toArray, List.set_cons_zero, List.set_cons_succ]) | (refine Txt.tl_load (v := ?_) (by rfl) (by rfl) (by rfl) (by kernel_rfl) ?_ ?_; rotate_left; (focus assumption); simp only [Act.put, List.setIfInBounds_toArray, List.set_cons_zero, List.set_cons_succ])))
                try rw [h3]
                (repeat (first | (refine Txt.tl_pure (v := ?_) (by rfl) ?_ ?_; rotate_left; (focus (intro _; go_simp; try with_reducible rfl)); simp only [Act.put, List.setIfInBounds_toArray, List.set_cons_zero, List.set_cons_succ]) | (refine Txt.tl_skip (by rfl) trivial ?_; simp only [Act.put, List.setIfInBounds_toArray, List.set_cons_zero, List.set_cons_succ]) | (refine Txt.tl_load (v := ?_) (by rfl) (by rfl) (by rfl) (by kernel_rfl) ?_ ?_; rotate_left; (focus assumption); simp only [Act.put, List.setIfInBounds_toArray, List.set_cons_zero, List.set_cons_succ])))
                refine Txt.tl_nil ?_
                have HYx : Hid (¬ ltP y p) := fun h => by have := HLt.out.1 h; simp at this
                clear h1 h2 h3 d0 d1 e0 e1
                go_wp2
                have HM : Hid _ := HM.out.drew
                have RY : Hid _ := ((own_sl (show OwnP _ (.slice (some ⟨g1, o1, none⟩) m vc) out from HM.out.get 1 rfl)).2.lay.resolve_left (by omega) |> fun ⟨_, _, e, _, hr⟩ => (by cases e; exact hr j y Hy.out : World.rangeAt _ g1 (o1 + j * 2) (pr y)))
                have RX : Hid _ := HM.out.range 2 rfl
                have hgd : ∀ (op : BinOp) (a b : Operand) (xs ys : Array Value) (w : World), Sem.run Try.prog (eqGuard op 92 a b (.agg xs) (.agg ys)) w = .ok () w := guard_pr
                by_cases hyx2 : y = p
                · have hcmp : ∀ w, Sem.run Try.prog (binOp .eql 92 (pv y) (pv p)) w = .ok (.bool true) w := fun w => by rw [eql_pr, decide_eq_true hyx2]
                  have HI2 : Hid _ := HI.out.skip Hx.out (by rw [Hp.out, ← hyx2]; exact List.mem_of_getElem? Hy.out)
                  clear hyx2
                  refine Txt.wp_region_text (fun _ => True) [0, 0, 0, 0, 0, 0, 0, 0, 1, 1, 0, 0] (by kernel_rfl) (by kernel_rfl) trivial ?_
                  (repeat (first | (refine Txt.tl_pure (v := ?_) (by rfl) ?_ ?_; rotate_left; (focus (intro _; go_simp; try with_reducible rfl)); simp only [Act.put, List.setIfInBounds_toArray, List.set_cons_zero, List.set_cons_succ]) | (refine Txt.tl_skip (by rfl) trivial ?_; simp only [Act.put, List.setIfInBounds_toArray, List.set_cons_zero, List.set_cons_succ]) | (refine Txt.tl_rowN (n := 2) (ty := 92) (by rfl) (by rfl) (by rfl) RY.out (by kernel_rfl) rfl ?_; simp only [Act.put, List.setIfInBounds_toArray, List.set_cons_zero, List.set_cons_succ]) | (refine Txt.tl_rowN (n := 2) (ty := 92) (by rfl) (by rfl) (by rfl) RX.out (by kernel_rfl) rfl ?_; simp only [Act.put, List.setIfInBounds_toArray, List.set_cons_zero, List.set_cons_succ])))
                  refine Txt.tl_nil ?_
                  clear hcmp hgd RX RY
                  go_wp2
                  go_roundw
                  case rel => exact ⟨k + 1, _, out, by omega, rfl, by go_num, HM.out.take 2, HI2.out⟩
                  case measure => simp [intOf]; omega
                · have hcmp : ∀ w, Sem.run Try.prog (binOp .eql 92 (pv y) (pv p)) w = .ok (.bool false) w := fun w => by rw [eql_pr, decide_eq_false hyx2]
                  have HI2 : Hid (PaI D (k + 1) (out.take j ++ [p] ++ out.drop j)) := by
                    have := HI.out.put (j := j) Hx.out (by rw [Hp.out]; exact HB.out) (.inr ⟨y, Hy.out, by rw [Hp.out]; exact HYx.out, by rw [Hp.out]; exact hyx2⟩)
                    rwa [Hp.out] at this
                  clear hyx2
                  refine Txt.wp_region_text (fun _ => True) [0, 0, 0, 0, 0, 0, 0, 0, 1, 1, 0, 0] (by kernel_rfl) (by kernel_rfl) trivial ?_
                  (repeat (first | (refine Txt.tl_pure (v := ?_) (by rfl) ?_ ?_; rotate_left; (focus (intro _; go_simp; try with_reducible rfl)); simp only [Act.put, List.setIfInBounds_toArray, List.set_cons_zero, List.set_cons_succ]) | (refine Txt.tl_skip (by rfl) trivial ?_; simp only [Act.put, List.setIfInBounds_toArray, List.set_cons_zero, List.set_cons_succ]) | (refine Txt.tl_rowN (n := 2) (ty := 92) (by rfl) (by rfl) (by rfl) RY.out (by kernel_rfl) rfl ?_; simp only [Act.put, List.setIfInBounds_toArray, List.set_cons_zero, List.set_cons_succ]) | (refine Txt.tl_rowN (n := 2) (ty := 92) (by rfl) (by rfl) (by rfl) RX.out (by kernel_rfl) rfl ?_; simp only [Act.put, List.setIfInBounds_toArray, List.set_cons_zero, List.set_cons_succ])))
                  refine Txt.tl_nil ?_
                  clear hcmp hgd RX RY
                  have hkc : (j : Int) ≤ (vc : Int) := by omega
                  have hkc2 : ¬ vc = j := by omega
                  have A2 : Hid (∀ w', OwnP w' (.slice (some ⟨g1, o1, none⟩) m vc) out → St.At 2 pr w' (some ⟨g1, o1 + j * 2, none⟩) (m - j) (out.drop j)) := fun w' h => (own_sl h).2.tail j (by omega)
                  go_wp2_with (first | (refine St.wl_build0 encPr slPr rfl rfl ?_; intro o1; clear o1; have HM : Hid _ := row0 HM.out (T := 92) encPr rfl; simp only [Act.put, List.setIfInBounds_toArray, List.set_cons_zero, List.set_cons_succ]) | (refine St.wl_appR (els := ([] : List Pr)) encPr slPr (by decide) rfl rfl rfl (HM.out.get 3 rfl) rfl ((own_sl (HM.out.get 1 rfl)).2.cut _ (by omega)) (by simp <;> omega) ?_; intro v1 w3 h1 k1 g1; have HM : Hid _ := HM.out.appR 3 rfl h1 k1 g1; clear h1 k1 g1; simp only [Act.put, List.setIfInBounds_toArray, List.set_cons_zero, List.set_cons_succ]) | ((with_reducible refine at_load 92 ?_); refine St.wl_load tyPr rfl rfl rfl (HM.out.range 2 rfl) rfl ?_; simp only [Act.put, List.setIfInBounds_toArray, List.set_cons_zero, List.set_cons_succ]) | (refine St.wl_build slPr (by decide) rfl rfl (show (pr p).length = 2 from rfl) rfl ?_; have HM : Hid _ := HM.out.alloc (.cells (pr p).toArray 92) rfl; simp only [Act.put, List.setIfInBounds_toArray, List.set_cons_zero, List.set_cons_succ]) | (refine St.wl_app1z encPr slPr (by decide) rfl rfl rfl (HM.out.get 3 rfl) rfl p rfl (HM.out.get 4 rfl) (by simp <;> omega) ?_; intro v2 w4 h2 k2 g2; have HM : Hid _ := HM.out.appR 3 rfl h2 k2 g2; clear h2 k2 g2; simp only [Act.put, List.setIfInBounds_toArray, List.set_cons_zero, List.set_cons_succ]) | (refine St.wl_appR encPr slPr (by decide) rfl rfl rfl (HM.out.get 3 rfl) rfl (A2.out _ (HM.out.get 1 rfl)) (by simp <;> omega) ?_; intro v3 w5 h3 k3 g3; have HM : Hid _ := HM.out.appR 3 rfl h3 k3 g3; clear h3 k3 g3; simp only [Act.put, List.setIfInBounds_toArray, List.set_cons_zero, List.set_cons_succ]))
                  go_roundw
                  case rel => exact ⟨k + 1, v3, _, by omega, rfl, by go_num, HM.out.sub _ [0, 3] (by decide) rfl, HI2.out⟩
                  case measure => simp [intOf]; omega
            | false =>
              refine Txt.wp_region_text (fun _ => True) [0, 0, 0, 0, 0, 0, 0, 0, 0, 1, 0, 1, 0, 0, 0, 0, 0, 0, 1, 0, 1, 0, 0, 0, 0, 0, 0, 1, 0, 1, 0, 0, 0, 0] (by kernel_rfl) (by kernel_rfl) trivial ?_
              (repeat (first | (refine Txt.tl_pure (v := ?_) (by rfl) ?_ ?_; rotate_left; (focus (intro _; go_simp; try with_reducible rfl)); simp only [Act.put, List.setIfInBounds_toArray, List.set_cons_zero, List.set_cons_succ]) | (refine Txt.tl_skip (by rfl) trivial ?_; simp only [Act.put, List.setIfInBounds_toArray, List.set_cons_zero, List.set_cons_succ]) | (refine Txt.tl_load (v := ?_) (by rfl) (by rfl) (by rfl) (by kernel_rfl) ?_ ?_; rotate_left; (focus assumption); simp only [Act.put, List.setIfInBounds_toArray, List.set_cons_zero, List.set_cons_succ])))
              try rw [h1]
              (repeat (first | (refine Txt.tl_pure (v := ?_) (by rfl) ?_ ?_; rotate_left; (focus (intro _; go_simp; try with_reducible rfl)); simp only [Act.put, List.setIfInBounds_toArray, List.set_cons_zero, List.set_cons_succ]) | (refine Txt.tl_skip (by rfl) trivial ?_; simp only [Act.put, List.setIfInBounds_toArray, List.set_cons_zero, List.set_cons_succ]) | (refine Txt.tl_load (v := ?_) (by rfl) (by rfl) (by rfl) (by kernel_rfl) ?_ ?_; rotate_left; (focus assumption); simp only [Act.put, List.setIfInBounds_toArray, List.set_cons_zero, List.set_cons_succ])))
              try rw [h2]
              (repeat (first | (refine Txt.tl_pure (v := ?_) (by rfl) ?_ ?_; rotate_left; (focus (intro _; go_simp; try with_reducible rfl)); simp only [Act.put, List.setIfInBounds_toArray, List.set_cons_zero, List.set_cons_succ]) | (refine Txt.tl_skip (by rfl) trivial ?_; simp only [Act.put, List.setIfInBounds_toArray, List.set_cons_zero, List.set_cons_succ]) | (refine Txt.tl_load (v := ?_) (by rfl) (by rfl) (by rfl) (by kernel_rfl) ?_ ?_; rotate_left; (focus assumption); simp only [Act.put, List.setIfInBounds_toArray, List.set_cons_zero, List.set_cons_succ])))
              refine Txt.tl_nil ?_
              have HYx : Hid (¬ ltP y p) := fun h => by have := HLt.out.1 h; simp at this
              clear h1 h2 h3 d0 d1 e0 e1
              go_wp2
              have HM : Hid _ := HM.out.drew
              have RY : Hid _ := ((own_sl (show OwnP _ (.slice (some ⟨g1, o1, none⟩) m vc) out from HM.out.get 1 rfl)).2.lay.resolve_left (by omega) |> fun ⟨_, _, e, _, hr⟩ => (by cases e; exact hr j y Hy.out : World.rangeAt _ g1 (o1 + j * 2) (pr y)))
              have RX : Hid _ := HM.out.range 2 rfl
              have hgd : ∀ (op : BinOp) (a b : Operand) (xs ys : Array Value) (w : World), Sem.run Try.prog (eqGuard op 92 a b (.agg xs) (.agg ys)) w = .ok () w := guard_pr
              by_cases hyx2 : y = p
              · have hcmp : ∀ w, Sem.run Try.prog (binOp .eql 92 (pv y) (pv p)) w = .ok (.bool true) w := fun w => by rw [eql_pr, decide_eq_true hyx2]
                have HI2 : Hid _ := HI.out.skip Hx.out (by rw [Hp.out, ← hyx2]; exact List.mem_of_getElem? Hy.out)
                clear hyx2
                refine Txt.wp_region_text (fun _ => True) [0, 0, 0, 0, 0, 0, 0, 0, 1, 1, 0, 0] (by kernel_rfl) (by kernel_rfl) trivial ?_
                (repeat (first | (refine Txt.tl_pure (v := ?_) (by rfl) ?_ ?_; rotate_left; (focus (intro _; go_simp; try with_reducible rfl)); simp only [Act.put, List.setIfInBounds_toArray, List.set_cons_zero, List.set_cons_succ]) | (refine Txt.tl_skip (by rfl) trivial ?_; simp only [Act.put, List.setIfInBounds_toArray, List.set_cons_zero, List.set_cons_succ]) | (refine Txt.tl_rowN (n := 2) (ty := 92) (by rfl) (by rfl) (by rfl) RY.out (by kernel_rfl) rfl ?_; simp only [Act.put, List.setIfInBounds_toArray, List.set_cons_zero, List.set_cons_succ]) | (refine Txt.tl_rowN (n := 2) (ty := 92) (by rfl) (by rfl) (by rfl) RX.out (by kernel_rfl) rfl ?_; simp only [Act.put, List.setIfInBounds_toArray, List.set_cons_zero, List.set_cons_succ])))
                refine Txt.tl_nil ?_
                clear hcmp hgd RX RY
                go_wp2
                go_roundw
                case rel => exact ⟨k + 1, _, out, by omega, rfl, by go_num, HM.out.take 2, HI2.out⟩
                case measure => simp [intOf]; omega
              · have hcmp : ∀ w, Sem.run Try.prog (binOp .eql 92 (pv y) (pv p)) w = .ok (.bool false) w := fun w => by rw [eql_pr, decide_eq_false hyx2]
                have HI2 : Hid (PaI D (k + 1) (out.take j ++ [p] ++ out.drop j)) := by
                  have := HI.out.put (j := j) Hx.out (by rw [Hp.out]; exact HB.out) (.inr ⟨y, Hy.out, by rw [Hp.out]; exact HYx.out, by rw [Hp.out]; exact hyx2⟩)
                  rwa [Hp.out] at this
                clear hyx2
                refine Txt.wp_region_text (fun _ => True) [0, 0, 0, 0, 0, 0, 0, 0, 1, 1, 0, 0] (by kernel_rfl) (by kernel_rfl) trivial ?_
                (repeat (first | (refine Txt.tl_pure (v := ?_) (by rfl) ?_ ?_; rotate_left; (focus (intro _; go_simp; try with_reducible rfl)); simp only [Act.put, List.setIfInBounds_toArray, List.set_cons_zero, List.set_cons_succ]) | (refine Txt.tl_skip (by rfl) trivial ?_; simp only [Act.put, List.setIfInBounds_toArray, List.set_cons_zero, List.set_cons_succ]) | (refine Txt.tl_rowN (n := 2) (ty := 92) (by rfl) (by rfl) (by rfl) RY.out (by kernel_rfl) rfl ?_; simp only [Act.put, List.setIfInBounds_toArray, List.set_cons_zero, List.set_cons_succ]) | (refine Txt.tl_rowN (n := 2) (ty := 92) (by rfl) (by rfl) (by rfl) RX.out (by kernel_rfl) rfl ?_; simp only [Act.put, List.setIfInBounds_toArray, List.set_cons_zero, List.set_cons_succ])))
                refine Txt.tl_nil ?_
                clear hcmp hgd RX RY
                have hkc : (j : Int) ≤ (vc : Int) := by omega
                have hkc2 : ¬ vc = j := by omega
                have A2 : Hid (∀ w', OwnP w' (.slice (some ⟨g1, o1, none⟩) m vc) out → St.At 2 pr w' (some ⟨g1, o1 + j * 2, none⟩) (m - j) (out.drop j)) := fun w' h => (own_sl h).2.tail j (by omega)
                go_wp2_with (first | (refine St.wl_build0 encPr slPr rfl rfl ?_; intro o1; clear o1; have HM : Hid _ := row0 HM.out (T := 92) encPr rfl; simp only [Act.put, List.setIfInBounds_toArray, List.set_cons_zero, List.set_cons_succ]) | (refine St.wl_appR (els := ([] : List Pr)) encPr slPr (by decide) rfl rfl rfl (HM.out.get 3 rfl) rfl ((own_sl (HM.out.get 1 rfl)).2.cut _ (by omega)) (by simp <;> omega) ?_; intro v1 w3 h1 k1 g1; have HM : Hid _ := HM.out.appR 3 rfl h1 k1 g1; clear h1 k1 g1; simp only [Act.put, List.setIfInBounds_toArray, List.set_cons_zero, List.set_cons_succ]) | ((with_reducible refine at_load 92 ?_); refine St.wl_load tyPr rfl rfl rfl (HM.out.range 2 rfl) rfl ?_; simp only [Act.put, List.setIfInBounds_toArray, List.set_cons_zero, List.set_cons_succ]) | (refine St.wl_build slPr (by decide) rfl rfl (show (pr p).length = 2 from rfl) rfl ?_; have HM : Hid _ := HM.out.alloc (.cells (pr p).toArray 92) rfl; simp only [Act.put, List.setIfInBounds_toArray, List.set_cons_zero, List.set_cons_succ]) | (refine St.wl_app1z encPr slPr (by decide) rfl rfl rfl (HM.out.get 3 rfl) rfl p rfl (HM.out.get 4 rfl) (by simp <;> omega) ?_; intro v2 w4 h2 k2 g2; have HM : Hid _ := HM.out.appR 3 rfl h2 k2 g2; clear h2 k2 g2; simp only [Act.put, List.setIfInBounds_toArray, List.set_cons_zero, List.set_cons_succ]) | (refine St.wl_appR encPr slPr (by decide) rfl rfl rfl (HM.out.get 3 rfl) rfl (A2.out _ (HM.out.get 1 rfl)) (by simp <;> omega) ?_; intro v3 w5 h3 k3 g3; have HM : Hid _ := HM.out.appR 3 rfl h3 k3 g3; clear h3 k3 g3; simp only [Act.put, List.setIfInBounds_toArray, List.set_cons_zero, List.set_cons_succ]))
                go_roundw
                case rel => exact ⟨k + 1, v3, _, by omega, rfl, by go_num, HM.out.sub _ [0, 3] (by decide) rfl, HI2.out⟩
                case measure => simp [intOf]; omega
        · obtain rfl : m = j := by omega
          go_wp2
          have HM : Hid _ := HM.out.drew
          refine Txt.wp_region_text (fun _ => True) [0, 0, 0, 0, 0, 0, 0, 0, 0, 1, 0, 1, 0, 0, 0, 0, 0, 0, 1, 0, 1, 0, 0, 0, 0, 0, 0, 1, 0, 1, 0, 0, 0, 0] (by kernel_rfl) (by kernel_rfl) trivial ?_
          (repeat (first | (refine Txt.tl_pure (v := ?_) (by rfl) ?_ ?_; rotate_left; (focus (intro _; go_simp; try with_reducible rfl)); simp only [Act.put, List.setIfInBounds_toArray, List.set_cons_zero, List.set_cons_succ]) | (refine Txt.tl_skip (by rfl) trivial ?_; simp only [Act.put, List.setIfInBounds_toArray, List.set_cons_zero, List.set_cons_succ]) | (refine Txt.tl_load (v := ?_) (by rfl) (by rfl) (by rfl) (by kernel_rfl) ?_ ?_; rotate_left; (focus assumption); simp only [Act.put, List.setIfInBounds_toArray, List.set_cons_zero, List.set_cons_succ])))
          refine Txt.tl_nil ?_
          go_wp2
          have HM : Hid _ := HM.out.drew
          refine Txt.wp_region_text (fun _ => True) [0, 0, 0, 0, 0, 0, 0, 0, 1, 1, 0, 0] (by kernel_rfl) (by kernel_rfl) trivial ?_
          (repeat (first | (refine Txt.tl_pure (v := ?_) (by rfl) ?_ ?_; rotate_left; (focus (intro _; go_simp; try with_reducible rfl)); simp only [Act.put, List.setIfInBounds_toArray, List.set_cons_zero, List.set_cons_succ]) | (refine Txt.tl_skip (by rfl) trivial ?_; simp only [Act.put, List.setIfInBounds_toArray, List.set_cons_zero, List.set_cons_succ]) | (refine Txt.tl_load (v := ?_) (by rfl) (by rfl) (by rfl) (by kernel_rfl) ?_ ?_; rotate_left; (focus assumption); simp only [Act.put, List.setIfInBounds_toArray, List.set_cons_zero, List.set_cons_succ])))
          refine Txt.tl_nil ?_
          have HI2 : Hid (PaI D (k + 1) (out.take m ++ [p] ++ out.drop m)) := by
            have := HI.out.put (j := m) Hx.out (by rw [Hp.out]; exact HB.out) (.inl (by rw [Hm.out]; exact Nat.le_refl _))
            rwa [Hp.out] at this
          have hdn : Hid (out.drop m = []) := List.drop_eq_nil_of_le (by rw [Hm.out]; exact Nat.le_refl _)
          rcases Hf.out with ⟨rfl, rfl, rfl⟩ | ⟨g1, rfl⟩
          · have A2 : Hid (∀ w', OwnP w' (.slice none 0 0) out → St.At 2 pr w' none 0 (out.drop 0)) := fun w' h => by rw [hdn.out]; exact (own_sl h).2.empty
            go_wp2_with (first | (refine St.wl_build0 encPr slPr rfl rfl ?_; intro o1; clear o1; have HM : Hid _ := row0 HM.out (T := 92) encPr rfl; simp only [Act.put, List.setIfInBounds_toArray, List.set_cons_zero, List.set_cons_succ]) | (refine St.wl_appR (els := ([] : List Pr)) encPr slPr (by decide) rfl rfl rfl (HM.out.get 3 rfl) rfl ((own_sl (HM.out.get 1 rfl)).2.cut _ (by omega)) (by simp <;> omega) ?_; intro v1 w3 h1 k1 g1; have HM : Hid _ := HM.out.appR 3 rfl h1 k1 g1; clear h1 k1 g1; simp only [Act.put, List.setIfInBounds_toArray, List.set_cons_zero, List.set_cons_succ]) | ((with_reducible refine at_load 92 ?_); refine St.wl_load tyPr rfl rfl rfl (HM.out.range 2 rfl) rfl ?_; simp only [Act.put, List.setIfInBounds_toArray, List.set_cons_zero, List.set_cons_succ]) | (refine St.wl_build slPr (by decide) rfl rfl (show (pr p).length = 2 from rfl) rfl ?_; have HM : Hid _ := HM.out.alloc (.cells (pr p).toArray 92) rfl; simp only [Act.put, List.setIfInBounds_toArray, List.set_cons_zero, List.set_cons_succ]) | (refine St.wl_app1z encPr slPr (by decide) rfl rfl rfl (HM.out.get 3 rfl) rfl p rfl (HM.out.get 4 rfl) (by simp <;> omega) ?_; intro v2 w4 h2 k2 g2; have HM : Hid _ := HM.out.appR 3 rfl h2 k2 g2; clear h2 k2 g2; simp only [Act.put, List.setIfInBounds_toArray, List.set_cons_zero, List.set_cons_succ]) | (refine St.wl_appR encPr slPr (by decide) rfl rfl rfl (HM.out.get 3 rfl) rfl (A2.out _ (HM.out.get 1 rfl)) (by simp <;> omega) ?_; intro v3 w5 h3 k3 g3; have HM : Hid _ := HM.out.appR 3 rfl h3 k3 g3; clear h3 k3 g3; simp only [Act.put, List.setIfInBounds_toArray, List.set_cons_zero, List.set_cons_succ]))
            go_roundw
            case rel => exact ⟨k + 1, v3, _, by omega, rfl, by go_num, HM.out.sub _ [0, 3] (by decide) rfl, HI2.out⟩
            case measure => simp [intOf]; omega
          · by_cases hkc : vc = m
            · subst hkc
              have A2 : Hid (∀ w', OwnP w' (.slice (some ⟨g1, 0, none⟩) vc vc) out → St.At 2 pr w' (some ⟨g1, 0, none⟩) 0 (out.drop vc)) := fun w' h => by rw [hdn.out]; exact (own_sl h).2.empty
              go_wp2_with (first | (refine St.wl_build0 encPr slPr rfl rfl ?_; intro o1; clear o1; have HM : Hid _ := row0 HM.out (T := 92) encPr rfl; simp only [Act.put, List.setIfInBounds_toArray, List.set_cons_zero, List.set_cons_succ]) | (refine St.wl_appR (els := ([] : List Pr)) encPr slPr (by decide) rfl rfl rfl (HM.out.get 3 rfl) rfl ((own_sl (HM.out.get 1 rfl)).2.cut _ (by omega)) (by simp <;> omega) ?_; intro v1 w3 h1 k1 g1; have HM : Hid _ := HM.out.appR 3 rfl h1 k1 g1; clear h1 k1 g1; simp only [Act.put, List.setIfInBounds_toArray, List.set_cons_zero, List.set_cons_succ]) | ((with_reducible refine at_load 92 ?_); refine St.wl_load tyPr rfl rfl rfl (HM.out.range 2 rfl) rfl ?_; simp only [Act.put, List.setIfInBounds_toArray, List.set_cons_zero, List.set_cons_succ]) | (refine St.wl_build slPr (by decide) rfl rfl (show (pr p).length = 2 from rfl) rfl ?_; have HM : Hid _ := HM.out.alloc (.cells (pr p).toArray 92) rfl; simp only [Act.put, List.setIfInBounds_toArray, List.set_cons_zero, List.set_cons_succ]) | (refine St.wl_app1z encPr slPr (by decide) rfl rfl rfl (HM.out.get 3 rfl) rfl p rfl (HM.out.get 4 rfl) (by simp <;> omega) ?_; intro v2 w4 h2 k2 g2; have HM : Hid _ := HM.out.appR 3 rfl h2 k2 g2; clear h2 k2 g2; simp only [Act.put, List.setIfInBounds_toArray, List.set_cons_zero, List.set_cons_succ]) | (refine St.wl_appR encPr slPr (by decide) rfl rfl rfl (HM.out.get 3 rfl) rfl (A2.out _ (HM.out.get 1 rfl)) (by simp <;> omega) ?_; intro v3 w5 h3 k3 g3; have HM : Hid _ := HM.out.appR 3 rfl h3 k3 g3; clear h3 k3 g3; simp only [Act.put, List.setIfInBounds_toArray, List.set_cons_zero, List.set_cons_succ]))
              go_roundw
              case rel => exact ⟨k + 1, v3, _, by omega, rfl, by go_num, HM.out.sub _ [0, 3] (by decide) rfl, HI2.out⟩
              case measure => simp [intOf]; omega
            · have hnc' : (m : Int) ≤ (vc : Int) := by omega
              have A2 : Hid (∀ w', OwnP w' (.slice (some ⟨g1, 0, none⟩) m vc) out → St.At 2 pr w' (some ⟨g1, m * 2, none⟩) 0 (out.drop m)) := fun w' h => by rw [hdn.out]; exact (own_sl h).2.empty
              go_wp2_with (first | (refine St.wl_build0 encPr slPr rfl rfl ?_; intro o1; clear o1; have HM : Hid _ := row0 HM.out (T := 92) encPr rfl; simp only [Act.put, List.setIfInBounds_toArray, List.set_cons_zero, List.set_cons_succ]) | (refine St.wl_appR (els := ([] : List Pr)) encPr slPr (by decide) rfl rfl rfl (HM.out.get 3 rfl) rfl ((own_sl (HM.out.get 1 rfl)).2.cut _ (by omega)) (by simp <;> omega) ?_; intro v1 w3 h1 k1 g1; have HM : Hid _ := HM.out.appR 3 rfl h1 k1 g1; clear h1 k1 g1; simp only [Act.put, List.setIfInBounds_toArray, List.set_cons_zero, List.set_cons_succ]) | ((with_reducible refine at_load 92 ?_); refine St.wl_load tyPr rfl rfl rfl (HM.out.range 2 rfl) rfl ?_; simp only [Act.put, List.setIfInBounds_toArray, List.set_cons_zero, List.set_cons_succ]) | (refine St.wl_build slPr (by decide) rfl rfl (show (pr p).length = 2 from rfl) rfl ?_; have HM : Hid _ := HM.out.alloc (.cells (pr p).toArray 92) rfl; simp only [Act.put, List.setIfInBounds_toArray, List.set_cons_zero, List.set_cons_succ]) | (refine St.wl_app1z encPr slPr (by decide) rfl rfl rfl (HM.out.get 3 rfl) rfl p rfl (HM.out.get 4 rfl) (by simp <;> omega) ?_; intro v2 w4 h2 k2 g2; have HM : Hid _ := HM.out.appR 3 rfl h2 k2 g2; clear h2 k2 g2; simp only [Act.put, List.setIfInBounds_toArray, List.set_cons_zero, List.set_cons_succ]) | (refine St.wl_appR encPr slPr (by decide) rfl rfl rfl (HM.out.get 3 rfl) rfl (A2.out _ (HM.out.get 1 rfl)) (by simp <;> omega) ?_; intro v3 w5 h3 k3 g3; have HM : Hid _ := HM.out.appR 3 rfl h3 k3 g3; clear h3 k3 g3; simp only [Act.put, List.setIfInBounds_toArray, List.set_cons_zero, List.set_cons_succ]))
              go_roundw
              case rel => exact ⟨k + 1, v3, _, by omega, rfl, by go_num, HM.out.sub _ [0, 3] (by decide) rfl, HI2.out⟩
              case measure => simp [intOf]; omega
    · obtain rfl : n = k := by omega
      have HE : Hid (D.take n = D) := List.take_of_length_le (by rw [Hn.out]; exact Nat.le_refl _)
      go_wp2
      go_ret
      exact ⟨_, out, rfl, HM.out.sub _ [1] (by decide) rfl, HI.out.pw, fun p => by
        rw [HI.out.mem, HE.out]
        exact ⟨fun ⟨x, h1, h2⟩ => ⟨x, (HDm.out x).1 h1, h2⟩, fun ⟨x, h1, h2⟩ => ⟨x, (HDm.out x).2 h1, h2⟩⟩, by have := HI.out.len; have := HDl.out; have := Hn.out; omega⟩
end Mu
end Go.Proofs.Ytgpimeobkacniaa


namespace Go.Proofs.Ytgpimeobkacniaa
open Go.RowKit
namespace Mu
open Oct Ids Mp
theorem run_storeRX {w : World} {p : Addr} {ad : Option Addr} {n c : Nat} {old : Value} (hc : w.cell? p = some old) (hf : w.frozen? p = false) : (Instr.storeAt 63 (.pointer (some p)) (.slice ad n c)).run Try.prog w = .ok () (w.setCell p (.slice ad n c)) := by
  go_simp
section
variable {o : Oper} {a : Act} {w : World} {K : Act → World → Prop} {Q : Exit → Act → World → Prop}
theorem wp_storeRX {x y : Operand} (ho : o.op = .store 63 x y) (hd : o.dst = none) {p : Addr} (hx : a.eval x = .pointer (some p)) {ad : Option Addr} {n c : Nat} (hy : a.eval y = .slice ad n c) {old : Value} (hc : w.cell? p = some old) (hf : w.frozen? p = false)
    (h : K a (w.setCell p (.slice ad n c))) : o.wp Try.prog a w K Q := by
  unfold Oper.wp execOp
  simp only [ho, hx, hy, Sem.run_bind, run_storeRX hc hf, Result.andThen_ok, Sem.run_pure]
  rw [Oper.upon_skip, hd]
  exact h
end
end Mu
end Go.Proofs.Ytgpimeobkacniaa


namespace Go.Proofs.Ytgpimeobkacniaa
open Go.RowKit
namespace Mu
open Oct Ids Mp
open Mem (M It blk ids rows)
open Sq (at_load at_alloc at_store wp_storeI)
/-- What the document's Set comes to. -/
structure XSetPost (w : World) (b : Nat) (lv gv : Value) (X : List Wr) (G : List Wd) (x : Wr) (ov : List Wd) (e : Ending) (w' : World) : Prop where
  ret : e = .returned (.int .i64 (cdW x))
  bad : cdW x ≠ 0 → MXTo w w' b lv gv lv gv X G
  ok : cdW x = 0 → ∃ lv' gv', MXTo w w' b lv gv lv' gv' (X ++ [x]) (IdL.setL (G ++ ov))
attribute [local irreducible] Oper.wp wpOp
set_option maxRecDepth 100000 in
set_option maxHeartbeats 16000000 in
theorem xmset_any (w : World) (b : Nat) (lv gv : Value) (X : List Wr) (G : List Wd) (h : MxAt w b lv gv X G) (hX : X.length ≤ 1000) (hG : G.length ≤ 1000) (x : Wr) (hk : x.k.size ≤ maxLen) (hv : x.v.size ≤ maxLen) (oa : Option Addr) (on oc : Nat) (ov : List Wd) (ha : At w oa on ov) (hon : on ≤ 1000) (hd : ∀ g o, oa = some ⟨g, o, none⟩ → on ≠ 0 → ¬ mxfoot b lv gv g) :
    Calls Try.prog 30 #[.pointer (some ⟨b, 0, none⟩), .agg (we x).toArray, .slice oa on oc] w (XSetPost w b lv gv X G x ov) := by
  obtain ⟨la, lc, e1, _⟩ := h.row
  obtain ⟨ga, gc, e2, _⟩ := h.gone.at
  subst e1 e2
  obtain ⟨n, hn⟩ : ∃ n, X.length = n := ⟨_, rfl⟩
  obtain ⟨g, hg⟩ : ∃ g, G.length = g := ⟨_, rfl⟩
  rw [hn] at h hX hd ⊢
  rw [hg] at h hG hd ⊢
  have HXs : Hid (MxAt w b (.slice la n lc) (.slice ga g gc) X G) := h
  have Hn : Hid (X.length = n) := hn
  have HA : Hid (At w oa on ov) := ha
  have HD : Hid (∀ g' o, oa = some ⟨g', o, none⟩ → on ≠ 0 → ¬ mxfoot b (.slice la n lc) (.slice ga g gc) g') := hd
  have HM : Hid (M (mxfoot b (.slice la n lc) (.slice ga g gc)) w _ (mxit b (.slice la n lc) (.slice ga g gc) X G ++ [blk w.heap.size (.cells (we x).toArray 51)])) := h.all.alloc (.cells (we x).toArray 51) rfl
  have KW : Hid (Keep (fun _ => False) w _) := (Keep.refl (fun _ => False) w).alloc (.cells (we x).toArray 51)
  have d32 := rng_wk (HM.out.range 3 rfl)
  have d33 := rng_wv (HM.out.range 3 rfl)
  simp only [Nat.zero_add] at d32 d33
  unfold maxLen at hk hv
  clear h ha hd hn hg
  obtain ⟨cd, hcd⟩ : ∃ c, cdW x = c := ⟨_, rfl⟩
  have HC : Hid (cdW x = cd) := hcd
  unfold cdW at hcd
  go_enter Try.func30, Try.ntmps30
  by_cases hbig : 16 < x.k.size ∨ (x.k.size ≤ 16 ∧ 16 < x.v.size)
  · rw [if_pos (by omega)] at hcd
    subst hcd
    rcases hbig with h1 | ⟨h1, h2⟩
    · go_wp2
      go_ret
      exact ⟨by rw [HC.out]; rfl, fun _ => MXTo.calm HXs.out KW.out, fun h => (by rw [HC.out] at h; cases h)⟩
    · go_wp2
      go_ret
      exact ⟨by rw [HC.out]; rfl, fun _ => MXTo.calm HXs.out KW.out, fun h => (by rw [HC.out] at h; cases h)⟩
  · rw [if_neg (by omega)] at hcd
    subst hcd
    have h1 : x.k.size ≤ 16 := by omega
    have h2 : x.v.size ≤ 16 := by omega
    clear hbig
    go_wp2
    clear d32 d33
    --REGION3
    refine Txt.region_to (fun a a' w' => ∃ (u1 u6 u8 : Value) (a7 : Option Addr) (c7 : Nat), a' = ((((((((((((a.put (some 17) (.pointer (some ⟨b, 0, none⟩))).put (some 18) (u1)).put (some 19) (.pointer (some ⟨b, 0, none⟩))).put (some 20) (.pointer (some ⟨b, 0, none⟩))).put (some 21) (.pointer (some ⟨b, 0, none⟩))).put (some 22) (.slice la n lc)).put (some 23) (u6)).put (some 24) ((.agg (we x).toArray))).put (some 25) (u8)).put (some 26) (.slice a7 (n + 1) c7)).put (some 27) (.pointer (some ⟨b, 0, none⟩))).put (some 28) (.pointer (some ⟨b, 0, none⟩))) ∧ Hid (M (mxfoot b (.slice la n lc) (.slice ga g gc)) w w' [blk b (mxc (.slice a7 (n + 1) c7) (.slice ga g gc)), rX (.slice a7 (n + 1) c7) (X ++ [x]), ids (.slice ga g gc) G, blk w.heap.size (.cells (we x).toArray 51)])) ?_ ?_
    · refine wp_region_any (by kernel_rfl) ?_
      change wpAny _ _ _ _ _ _ _ (World.drew _)
      have HM : Hid _ := HM.out.drew
      refine wpAny_take (i := 0) (v := ?_) rfl (by kernel_rfl) (by kernel_rfl) (by kernel_rfl) (fun _ _ _ h => by cases h.1) (Or.inl ⟨by kernel_rfl, ?_⟩) ?_; rotate_left; (focus (intro w; go_simp; try with_reducible rfl)); simp only [Act.put, List.setIfInBounds_toArray, List.set_cons_zero, List.set_cons_succ]
      refine wpAny_take (i := 2) (v := ?_) rfl (by kernel_rfl) (by kernel_rfl) (by kernel_rfl) (fun _ _ _ h => by cases h.1) (Or.inl ⟨by kernel_rfl, ?_⟩) ?_; rotate_left; (focus (intro w; go_simp; try with_reducible rfl)); simp only [Act.put, List.setIfInBounds_toArray, List.set_cons_zero, List.set_cons_succ]
      refine wpAny_take (i := 3) (v := ?_) rfl (by kernel_rfl) (by kernel_rfl) (by kernel_rfl) (fun _ _ _ h => by cases h.1) (Or.inl ⟨by kernel_rfl, ?_⟩) ?_; rotate_left; (focus (intro w; go_simp; try with_reducible rfl)); simp only [Act.put, List.setIfInBounds_toArray, List.set_cons_zero, List.set_cons_succ]
      refine wpAny_take (i := 4) (v := ?_) rfl (by kernel_rfl) (by kernel_rfl) (by kernel_rfl) (fun _ _ _ h => by cases h.1) (Or.inl ⟨by kernel_rfl, ?_⟩) ?_; rotate_left; (focus (intro w; go_simp; try with_reducible rfl)); simp only [Act.put, List.setIfInBounds_toArray, List.set_cons_zero, List.set_cons_succ]
      refine Txt.anyw [1, 5, 7] rfl (by kernel_rfl) (by simp) (Txt.all3 ?_ ?_ ?_)
      · refine Txt.opw rfl (Txt.wanted_none rfl) ?_
        refine St.wp_build0z slR rfl ?_; have HM : Hid _ := Sq.row0 HM.out (T := 51) encW rfl; simp only [Act.put, List.setIfInBounds_toArray, List.set_cons_zero, List.set_cons_succ]
        refine Txt.anyw [5, 7] rfl (by kernel_rfl) (by simp) (Txt.all2 ?_ ?_)
        · refine Txt.opw rfl (Txt.wanted_none rfl) ?_
          refine Txt.wp_ld (v := .slice la n lc) (ty := 63) (p := ⟨b, 0, none⟩) rfl (by kernel_rfl) (by kernel_rfl) (HM.out.cell 0 rfl 0 rfl) ?_; simp only [Act.put, List.setIfInBounds_toArray, List.set_cons_zero, List.set_cons_succ]
          refine Txt.anyw [6, 7] rfl (by kernel_rfl) (by simp) (Txt.all2 ?_ ?_)
          · refine Txt.opw rfl (Txt.wanted_none rfl) ?_
            refine St.wp_appRz (v := .slice (some ⟨(World.drew (World.alloc w (.cells (we x).toArray 51))).heap.size, 0, none⟩) 0 0) (ad := la) (k := n) (c := lc) encW slR (by decide) rfl (by kernel_rfl) (HM.out.get 4 rfl) (by kernel_rfl) (Sq.own_sl (HM.out.get 1 rfl)).2 (by simp; omega) ?_; intro v6 w6 h6 k6 g6; have HM : Hid _ := HM.out.appR 4 rfl h6 k6 g6; clear h6 k6 g6; simp only [Act.put, List.setIfInBounds_toArray, List.set_cons_zero, List.set_cons_succ]
            refine Txt.anyw [7] rfl (by kernel_rfl) (by simp) (Txt.all1 ?_)
            refine Txt.opw rfl (Txt.wanted_none rfl) ?_
            refine Txt.wp_ldN (n := 34) (ty := 51) (b := w.heap.size) (i := 0) rfl (by kernel_rfl) (HM.out.range 3 rfl) (by kernel_rfl) (we_len x) ?_; simp only [Act.put, List.setIfInBounds_toArray, List.set_cons_zero, List.set_cons_succ]
            refine Txt.anyw [8] rfl (by kernel_rfl) (by simp) (Txt.all1 ?_)
            refine Txt.opw rfl (Txt.wanted_none rfl) ?_
            refine St.wp_build slR (by decide) rfl (we_len x) (by kernel_rfl) ?_; have HM : Hid _ := HM.out.alloc (.cells (we x).toArray 51) rfl; simp only [Act.put, List.setIfInBounds_toArray, List.set_cons_zero, List.set_cons_succ]
            refine Txt.anyw [9] rfl (by kernel_rfl) (by simp) (Txt.all1 ?_)
            refine Txt.opw rfl (Txt.wanted_none rfl) ?_
            refine St.wp_app1z (v := v6) (g := w6.heap.size) encW slR (by decide) rfl (by kernel_rfl) (HM.out.get 4 rfl) (by kernel_rfl) x rfl (HM.out.get 5 rfl) (by simp; have := Hn.out; omega) ?_; intro v7 w7 h7 k7 g7; have e0 : (([] ++ X) ++ [x]).length = n + 1 := (by simp [Hn.out]); obtain ⟨a7, c7, e7, _⟩ := h7.any; rw [e0] at e7; subst e7; have HM : Hid _ := HM.out.appR 4 rfl h7 k7 g7; rw [List.nil_append] at HM; clear e0 h7 k7 g7; simp only [Act.put, List.setIfInBounds_toArray, List.set_cons_zero, List.set_cons_succ]
            refine wpAny_take (i := 10) (v := ?_) rfl (by kernel_rfl) (by kernel_rfl) (by kernel_rfl) (fun _ _ _ h => by cases h.1) (Or.inl ⟨by kernel_rfl, ?_⟩) ?_; rotate_left; (focus (intro w; go_simp; try with_reducible rfl)); simp only [Act.put, List.setIfInBounds_toArray, List.set_cons_zero, List.set_cons_succ]
            refine wpAny_take (i := 11) (v := ?_) rfl (by kernel_rfl) (by kernel_rfl) (by kernel_rfl) (fun _ _ _ h => by cases h.1) (Or.inl ⟨by kernel_rfl, ?_⟩) ?_; rotate_left; (focus (intro w; go_simp; try with_reducible rfl)); simp only [Act.put, List.setIfInBounds_toArray, List.set_cons_zero, List.set_cons_succ]
            refine Txt.anyw [12] rfl (by kernel_rfl) (by simp) (Txt.all1 ?_)
            refine Txt.opw rfl (Txt.wanted_none rfl) ?_
            refine wp_storeRX (p := ⟨b, 0, none⟩) (ad := a7) (n := n + 1) (c := c7) rfl rfl (by kernel_rfl) (by kernel_rfl) (HM.out.cell 0 rfl 0 rfl) (HM.out.free 0 rfl 0) ?_; have HM : Hid _ := HM.out.setc 0 rfl 0 (.slice a7 (n + 1) c7)
            refine wpAny_done (by kernel_rfl) ?_ _
            refine ⟨rfl, ?_⟩
            exact ⟨.slice (some ⟨(World.drew (World.alloc w (.cells (we x).toArray 51))).heap.size, 0, none⟩) 0 0, v6, .slice (some ⟨w6.heap.size, 0, none⟩) 1 1, a7, c7, (by kernel_rfl), HM.out.sub _ [0, 4, 2, 3] (by decide) rfl⟩
          · refine Txt.opw rfl (Txt.wanted_none rfl) ?_
            refine Txt.wp_ldN (n := 34) (ty := 51) (b := w.heap.size) (i := 0) rfl (by kernel_rfl) (HM.out.range 3 rfl) (by kernel_rfl) (we_len x) ?_; simp only [Act.put, List.setIfInBounds_toArray, List.set_cons_zero, List.set_cons_succ]
            refine Txt.anyw [6, 8] rfl (by kernel_rfl) (by simp) (Txt.all2 ?_ ?_)
            · refine Txt.opw rfl (Txt.wanted_none rfl) ?_
              refine St.wp_appRz (v := .slice (some ⟨(World.drew (World.alloc w (.cells (we x).toArray 51))).heap.size, 0, none⟩) 0 0) (ad := la) (k := n) (c := lc) encW slR (by decide) rfl (by kernel_rfl) (HM.out.get 4 rfl) (by kernel_rfl) (Sq.own_sl (HM.out.get 1 rfl)).2 (by simp; omega) ?_; intro v6 w6 h6 k6 g6; have HM : Hid _ := HM.out.appR 4 rfl h6 k6 g6; clear h6 k6 g6; simp only [Act.put, List.setIfInBounds_toArray, List.set_cons_zero, List.set_cons_succ]
              refine Txt.anyw [8] rfl (by kernel_rfl) (by simp) (Txt.all1 ?_)
              refine Txt.opw rfl (Txt.wanted_none rfl) ?_
              refine St.wp_build slR (by decide) rfl (we_len x) (by kernel_rfl) ?_; have HM : Hid _ := HM.out.alloc (.cells (we x).toArray 51) rfl; simp only [Act.put, List.setIfInBounds_toArray, List.set_cons_zero, List.set_cons_succ]
              refine Txt.anyw [9] rfl (by kernel_rfl) (by simp) (Txt.all1 ?_)
              refine Txt.opw rfl (Txt.wanted_none rfl) ?_
              refine St.wp_app1z (v := v6) (g := w6.heap.size) encW slR (by decide) rfl (by kernel_rfl) (HM.out.get 4 rfl) (by kernel_rfl) x rfl (HM.out.get 5 rfl) (by simp; have := Hn.out; omega) ?_; intro v7 w7 h7 k7 g7; have e0 : (([] ++ X) ++ [x]).length = n + 1 := (by simp [Hn.out]); obtain ⟨a7, c7, e7, _⟩ := h7.any; rw [e0] at e7; subst e7; have HM : Hid _ := HM.out.appR 4 rfl h7 k7 g7; rw [List.nil_append] at HM; clear e0 h7 k7 g7; simp only [Act.put, List.setIfInBounds_toArray, List.set_cons_zero, List.set_cons_succ]
              refine wpAny_take (i := 10) (v := ?_) rfl (by kernel_rfl) (by kernel_rfl) (by kernel_rfl) (fun _ _ _ h => by cases h.1) (Or.inl ⟨by kernel_rfl, ?_⟩) ?_; rotate_left; (focus (intro w; go_simp; try with_reducible rfl)); simp only [Act.put, List.setIfInBounds_toArray, List.set_cons_zero, List.set_cons_succ]
              refine wpAny_take (i := 11) (v := ?_) rfl (by kernel_rfl) (by kernel_rfl) (by kernel_rfl) (fun _ _ _ h => by cases h.1) (Or.inl ⟨by kernel_rfl, ?_⟩) ?_; rotate_left; (focus (intro w; go_simp; try with_reducible rfl)); simp only [Act.put, List.setIfInBounds_toArray, List.set_cons_zero, List.set_cons_succ]
              refine Txt.anyw [12] rfl (by kernel_rfl) (by simp) (Txt.all1 ?_)
              refine Txt.opw rfl (Txt.wanted_none rfl) ?_
              refine wp_storeRX (p := ⟨b, 0, none⟩) (ad := a7) (n := n + 1) (c := c7) rfl rfl (by kernel_rfl) (by kernel_rfl) (HM.out.cell 0 rfl 0 rfl) (HM.out.free 0 rfl 0) ?_; have HM : Hid _ := HM.out.setc 0 rfl 0 (.slice a7 (n + 1) c7)
              refine wpAny_done (by kernel_rfl) ?_ _
              refine ⟨rfl, ?_⟩
              exact ⟨.slice (some ⟨(World.drew (World.alloc w (.cells (we x).toArray 51))).heap.size, 0, none⟩) 0 0, v6, .slice (some ⟨w6.heap.size, 0, none⟩) 1 1, a7, c7, (by kernel_rfl), HM.out.sub _ [0, 4, 2, 3] (by decide) rfl⟩
            · refine Txt.opw rfl (Txt.wanted_none rfl) ?_
              refine St.wp_build slR (by decide) rfl (we_len x) (by kernel_rfl) ?_; have HM : Hid _ := HM.out.alloc (.cells (we x).toArray 51) rfl; simp only [Act.put, List.setIfInBounds_toArray, List.set_cons_zero, List.set_cons_succ]
              refine Txt.anyw [6] rfl (by kernel_rfl) (by simp) (Txt.all1 ?_)
              refine Txt.opw rfl (Txt.wanted_none rfl) ?_
              refine St.wp_appRz (v := .slice (some ⟨(World.drew (World.alloc w (.cells (we x).toArray 51))).heap.size, 0, none⟩) 0 0) (ad := la) (k := n) (c := lc) encW slR (by decide) rfl (by kernel_rfl) (HM.out.get 4 rfl) (by kernel_rfl) (Sq.own_sl (HM.out.get 1 rfl)).2 (by simp; omega) ?_; intro v6 w6 h6 k6 g6; have HM : Hid _ := HM.out.appR 4 rfl h6 k6 g6; clear h6 k6 g6; simp only [Act.put, List.setIfInBounds_toArray, List.set_cons_zero, List.set_cons_succ]
              refine Txt.anyw [9] rfl (by kernel_rfl) (by simp) (Txt.all1 ?_)
              refine Txt.opw rfl (Txt.wanted_none rfl) ?_
              refine St.wp_app1z (v := v6) (g := (World.alloc (World.drew (World.alloc w (.cells (we x).toArray 51))) (.cells #[] 51)).heap.size) encW slR (by decide) rfl (by kernel_rfl) (HM.out.get 4 rfl) (by kernel_rfl) x rfl (HM.out.get 5 rfl) (by simp; have := Hn.out; omega) ?_; intro v7 w7 h7 k7 g7; have e0 : (([] ++ X) ++ [x]).length = n + 1 := (by simp [Hn.out]); obtain ⟨a7, c7, e7, _⟩ := h7.any; rw [e0] at e7; subst e7; have HM : Hid _ := HM.out.appR 4 rfl h7 k7 g7; rw [List.nil_append] at HM; clear e0 h7 k7 g7; simp only [Act.put, List.setIfInBounds_toArray, List.set_cons_zero, List.set_cons_succ]
              refine wpAny_take (i := 10) (v := ?_) rfl (by kernel_rfl) (by kernel_rfl) (by kernel_rfl) (fun _ _ _ h => by cases h.1) (Or.inl ⟨by kernel_rfl, ?_⟩) ?_; rotate_left; (focus (intro w; go_simp; try with_reducible rfl)); simp only [Act.put, List.setIfInBounds_toArray, List.set_cons_zero, List.set_cons_succ]
              refine wpAny_take (i := 11) (v := ?_) rfl (by kernel_rfl) (by kernel_rfl) (by kernel_rfl) (fun _ _ _ h => by cases h.1) (Or.inl ⟨by kernel_rfl, ?_⟩) ?_; rotate_left; (focus (intro w; go_simp; try with_reducible rfl)); simp only [Act.put, List.setIfInBounds_toArray, List.set_cons_zero, List.set_cons_succ]
              refine Txt.anyw [12] rfl (by kernel_rfl) (by simp) (Txt.all1 ?_)
              refine Txt.opw rfl (Txt.wanted_none rfl) ?_
              refine wp_storeRX (p := ⟨b, 0, none⟩) (ad := a7) (n := n + 1) (c := c7) rfl rfl (by kernel_rfl) (by kernel_rfl) (HM.out.cell 0 rfl 0 rfl) (HM.out.free 0 rfl 0) ?_; have HM : Hid _ := HM.out.setc 0 rfl 0 (.slice a7 (n + 1) c7)
              refine wpAny_done (by kernel_rfl) ?_ _
              refine ⟨rfl, ?_⟩
              exact ⟨.slice (some ⟨(World.drew (World.alloc w (.cells (we x).toArray 51))).heap.size, 0, none⟩) 0 0, v6, .slice (some ⟨(World.alloc (World.drew (World.alloc w (.cells (we x).toArray 51))) (.cells #[] 51)).heap.size, 0, none⟩) 1 1, a7, c7, (by kernel_rfl), HM.out.sub _ [0, 4, 2, 3] (by decide) rfl⟩
        · refine Txt.opw rfl (Txt.wanted_none rfl) ?_
          refine Txt.wp_ldN (n := 34) (ty := 51) (b := w.heap.size) (i := 0) rfl (by kernel_rfl) (HM.out.range 3 rfl) (by kernel_rfl) (we_len x) ?_; simp only [Act.put, List.setIfInBounds_toArray, List.set_cons_zero, List.set_cons_succ]
          refine Txt.anyw [5, 8] rfl (by kernel_rfl) (by simp) (Txt.all2 ?_ ?_)
          · refine Txt.opw rfl (Txt.wanted_none rfl) ?_
            refine Txt.wp_ld (v := .slice la n lc) (ty := 63) (p := ⟨b, 0, none⟩) rfl (by kernel_rfl) (by kernel_rfl) (HM.out.cell 0 rfl 0 rfl) ?_; simp only [Act.put, List.setIfInBounds_toArray, List.set_cons_zero, List.set_cons_succ]
            refine Txt.anyw [6, 8] rfl (by kernel_rfl) (by simp) (Txt.all2 ?_ ?_)
            · refine Txt.opw rfl (Txt.wanted_none rfl) ?_
              refine St.wp_appRz (v := .slice (some ⟨(World.drew (World.alloc w (.cells (we x).toArray 51))).heap.size, 0, none⟩) 0 0) (ad := la) (k := n) (c := lc) encW slR (by decide) rfl (by kernel_rfl) (HM.out.get 4 rfl) (by kernel_rfl) (Sq.own_sl (HM.out.get 1 rfl)).2 (by simp; omega) ?_; intro v6 w6 h6 k6 g6; have HM : Hid _ := HM.out.appR 4 rfl h6 k6 g6; clear h6 k6 g6; simp only [Act.put, List.setIfInBounds_toArray, List.set_cons_zero, List.set_cons_succ]
              refine Txt.anyw [8] rfl (by kernel_rfl) (by simp) (Txt.all1 ?_)
              refine Txt.opw rfl (Txt.wanted_none rfl) ?_
              refine St.wp_build slR (by decide) rfl (we_len x) (by kernel_rfl) ?_; have HM : Hid _ := HM.out.alloc (.cells (we x).toArray 51) rfl; simp only [Act.put, List.setIfInBounds_toArray, List.set_cons_zero, List.set_cons_succ]
              refine Txt.anyw [9] rfl (by kernel_rfl) (by simp) (Txt.all1 ?_)
              refine Txt.opw rfl (Txt.wanted_none rfl) ?_
              refine St.wp_app1z (v := v6) (g := w6.heap.size) encW slR (by decide) rfl (by kernel_rfl) (HM.out.get 4 rfl) (by kernel_rfl) x rfl (HM.out.get 5 rfl) (by simp; have := Hn.out; omega) ?_; intro v7 w7 h7 k7 g7; have e0 : (([] ++ X) ++ [x]).length = n + 1 := (by simp [Hn.out]); obtain ⟨a7, c7, e7, _⟩ := h7.any; rw [e0] at e7; subst e7; have HM : Hid _ := HM.out.appR 4 rfl h7 k7 g7; rw [List.nil_append] at HM; clear e0 h7 k7 g7; simp only [Act.put, List.setIfInBounds_toArray, List.set_cons_zero, List.set_cons_succ]
              refine wpAny_take (i := 10) (v := ?_) rfl (by kernel_rfl) (by kernel_rfl) (by kernel_rfl) (fun _ _ _ h => by cases h.1) (Or.inl ⟨by kernel_rfl, ?_⟩) ?_; rotate_left; (focus (intro w; go_simp; try with_reducible rfl)); simp only [Act.put, List.setIfInBounds_toArray, List.set_cons_zero, List.set_cons_succ]
              refine wpAny_take (i := 11) (v := ?_) rfl (by kernel_rfl) (by kernel_rfl) (by kernel_rfl) (fun _ _ _ h => by cases h.1) (Or.inl ⟨by kernel_rfl, ?_⟩) ?_; rotate_left; (focus (intro w; go_simp; try with_reducible rfl)); simp only [Act.put, List.setIfInBounds_toArray, List.set_cons_zero, List.set_cons_succ]
              refine Txt.anyw [12] rfl (by kernel_rfl) (by simp) (Txt.all1 ?_)
              refine Txt.opw rfl (Txt.wanted_none rfl) ?_
              refine wp_storeRX (p := ⟨b, 0, none⟩) (ad := a7) (n := n + 1) (c := c7) rfl rfl (by kernel_rfl) (by kernel_rfl) (HM.out.cell 0 rfl 0 rfl) (HM.out.free 0 rfl 0) ?_; have HM : Hid _ := HM.out.setc 0 rfl 0 (.slice a7 (n + 1) c7)
              refine wpAny_done (by kernel_rfl) ?_ _
              refine ⟨rfl, ?_⟩
              exact ⟨.slice (some ⟨(World.drew (World.alloc w (.cells (we x).toArray 51))).heap.size, 0, none⟩) 0 0, v6, .slice (some ⟨w6.heap.size, 0, none⟩) 1 1, a7, c7, (by kernel_rfl), HM.out.sub _ [0, 4, 2, 3] (by decide) rfl⟩
            · refine Txt.opw rfl (Txt.wanted_none rfl) ?_
              refine St.wp_build slR (by decide) rfl (we_len x) (by kernel_rfl) ?_; have HM : Hid _ := HM.out.alloc (.cells (we x).toArray 51) rfl; simp only [Act.put, List.setIfInBounds_toArray, List.set_cons_zero, List.set_cons_succ]
              refine Txt.anyw [6] rfl (by kernel_rfl) (by simp) (Txt.all1 ?_)
              refine Txt.opw rfl (Txt.wanted_none rfl) ?_
              refine St.wp_appRz (v := .slice (some ⟨(World.drew (World.alloc w (.cells (we x).toArray 51))).heap.size, 0, none⟩) 0 0) (ad := la) (k := n) (c := lc) encW slR (by decide) rfl (by kernel_rfl) (HM.out.get 4 rfl) (by kernel_rfl) (Sq.own_sl (HM.out.get 1 rfl)).2 (by simp; omega) ?_; intro v6 w6 h6 k6 g6; have HM : Hid _ := HM.out.appR 4 rfl h6 k6 g6; clear h6 k6 g6; simp only [Act.put, List.setIfInBounds_toArray, List.set_cons_zero, List.set_cons_succ]
              refine Txt.anyw [9] rfl (by kernel_rfl) (by simp) (Txt.all1 ?_)
              refine Txt.opw rfl (Txt.wanted_none rfl) ?_
              refine St.wp_app1z (v := v6) (g := (World.alloc (World.drew (World.alloc w (.cells (we x).toArray 51))) (.cells #[] 51)).heap.size) encW slR (by decide) rfl (by kernel_rfl) (HM.out.get 4 rfl) (by kernel_rfl) x rfl (HM.out.get 5 rfl) (by simp; have := Hn.out; omega) ?_; intro v7 w7 h7 k7 g7; have e0 : (([] ++ X) ++ [x]).length = n + 1 := (by simp [Hn.out]); obtain ⟨a7, c7, e7, _⟩ := h7.any; rw [e0] at e7; subst e7; have HM : Hid _ := HM.out.appR 4 rfl h7 k7 g7; rw [List.nil_append] at HM; clear e0 h7 k7 g7; simp only [Act.put, List.setIfInBounds_toArray, List.set_cons_zero, List.set_cons_succ]
              refine wpAny_take (i := 10) (v := ?_) rfl (by kernel_rfl) (by kernel_rfl) (by kernel_rfl) (fun _ _ _ h => by cases h.1) (Or.inl ⟨by kernel_rfl, ?_⟩) ?_; rotate_left; (focus (intro w; go_simp; try with_reducible rfl)); simp only [Act.put, List.setIfInBounds_toArray, List.set_cons_zero, List.set_cons_succ]
              refine wpAny_take (i := 11) (v := ?_) rfl (by kernel_rfl) (by kernel_rfl) (by kernel_rfl) (fun _ _ _ h => by cases h.1) (Or.inl ⟨by kernel_rfl, ?_⟩) ?_; rotate_left; (focus (intro w; go_simp; try with_reducible rfl)); simp only [Act.put, List.setIfInBounds_toArray, List.set_cons_zero, List.set_cons_succ]
              refine Txt.anyw [12] rfl (by kernel_rfl) (by simp) (Txt.all1 ?_)
              refine Txt.opw rfl (Txt.wanted_none rfl) ?_
              refine wp_storeRX (p := ⟨b, 0, none⟩) (ad := a7) (n := n + 1) (c := c7) rfl rfl (by kernel_rfl) (by kernel_rfl) (HM.out.cell 0 rfl 0 rfl) (HM.out.free 0 rfl 0) ?_; have HM : Hid _ := HM.out.setc 0 rfl 0 (.slice a7 (n + 1) c7)
              refine wpAny_done (by kernel_rfl) ?_ _
              refine ⟨rfl, ?_⟩
              exact ⟨.slice (some ⟨(World.drew (World.alloc w (.cells (we x).toArray 51))).heap.size, 0, none⟩) 0 0, v6, .slice (some ⟨(World.alloc (World.drew (World.alloc w (.cells (we x).toArray 51))) (.cells #[] 51)).heap.size, 0, none⟩) 1 1, a7, c7, (by kernel_rfl), HM.out.sub _ [0, 4, 2, 3] (by decide) rfl⟩
          · refine Txt.opw rfl (Txt.wanted_none rfl) ?_
            refine St.wp_build slR (by decide) rfl (we_len x) (by kernel_rfl) ?_; have HM : Hid _ := HM.out.alloc (.cells (we x).toArray 51) rfl; simp only [Act.put, List.setIfInBounds_toArray, List.set_cons_zero, List.set_cons_succ]
            refine Txt.anyw [5] rfl (by kernel_rfl) (by simp) (Txt.all1 ?_)
            refine Txt.opw rfl (Txt.wanted_none rfl) ?_
            refine Txt.wp_ld (v := .slice la n lc) (ty := 63) (p := ⟨b, 0, none⟩) rfl (by kernel_rfl) (by kernel_rfl) (HM.out.cell 0 rfl 0 rfl) ?_; simp only [Act.put, List.setIfInBounds_toArray, List.set_cons_zero, List.set_cons_succ]
            refine Txt.anyw [6] rfl (by kernel_rfl) (by simp) (Txt.all1 ?_)
            refine Txt.opw rfl (Txt.wanted_none rfl) ?_
            refine St.wp_appRz (v := .slice (some ⟨(World.drew (World.alloc w (.cells (we x).toArray 51))).heap.size, 0, none⟩) 0 0) (ad := la) (k := n) (c := lc) encW slR (by decide) rfl (by kernel_rfl) (HM.out.get 4 rfl) (by kernel_rfl) (Sq.own_sl (HM.out.get 1 rfl)).2 (by simp; omega) ?_; intro v6 w6 h6 k6 g6; have HM : Hid _ := HM.out.appR 4 rfl h6 k6 g6; clear h6 k6 g6; simp only [Act.put, List.setIfInBounds_toArray, List.set_cons_zero, List.set_cons_succ]
            refine Txt.anyw [9] rfl (by kernel_rfl) (by simp) (Txt.all1 ?_)
            refine Txt.opw rfl (Txt.wanted_none rfl) ?_
            refine St.wp_app1z (v := v6) (g := (World.alloc (World.drew (World.alloc w (.cells (we x).toArray 51))) (.cells #[] 51)).heap.size) encW slR (by decide) rfl (by kernel_rfl) (HM.out.get 4 rfl) (by kernel_rfl) x rfl (HM.out.get 5 rfl) (by simp; have := Hn.out; omega) ?_; intro v7 w7 h7 k7 g7; have e0 : (([] ++ X) ++ [x]).length = n + 1 := (by simp [Hn.out]); obtain ⟨a7, c7, e7, _⟩ := h7.any; rw [e0] at e7; subst e7; have HM : Hid _ := HM.out.appR 4 rfl h7 k7 g7; rw [List.nil_append] at HM; clear e0 h7 k7 g7; simp only [Act.put, List.setIfInBounds_toArray, List.set_cons_zero, List.set_cons_succ]
            refine wpAny_take (i := 10) (v := ?_) rfl (by kernel_rfl) (by kernel_rfl) (by kernel_rfl) (fun _ _ _ h => by cases h.1) (Or.inl ⟨by kernel_rfl, ?_⟩) ?_; rotate_left; (focus (intro w; go_simp; try with_reducible rfl)); simp only [Act.put, List.setIfInBounds_toArray, List.set_cons_zero, List.set_cons_succ]
            refine wpAny_take (i := 11) (v := ?_) rfl (by kernel_rfl) (by kernel_rfl) (by kernel_rfl) (fun _ _ _ h => by cases h.1) (Or.inl ⟨by kernel_rfl, ?_⟩) ?_; rotate_left; (focus (intro w; go_simp; try with_reducible rfl)); simp only [Act.put, List.setIfInBounds_toArray, List.set_cons_zero, List.set_cons_succ]
            refine Txt.anyw [12] rfl (by kernel_rfl) (by simp) (Txt.all1 ?_)
            refine Txt.opw rfl (Txt.wanted_none rfl) ?_
            refine wp_storeRX (p := ⟨b, 0, none⟩) (ad := a7) (n := n + 1) (c := c7) rfl rfl (by kernel_rfl) (by kernel_rfl) (HM.out.cell 0 rfl 0 rfl) (HM.out.free 0 rfl 0) ?_; have HM : Hid _ := HM.out.setc 0 rfl 0 (.slice a7 (n + 1) c7)
            refine wpAny_done (by kernel_rfl) ?_ _
            refine ⟨rfl, ?_⟩
            exact ⟨.slice (some ⟨(World.drew (World.alloc w (.cells (we x).toArray 51))).heap.size, 0, none⟩) 0 0, v6, .slice (some ⟨(World.alloc (World.drew (World.alloc w (.cells (we x).toArray 51))) (.cells #[] 51)).heap.size, 0, none⟩) 1 1, a7, c7, (by kernel_rfl), HM.out.sub _ [0, 4, 2, 3] (by decide) rfl⟩
      · refine Txt.opw rfl (Txt.wanted_none rfl) ?_
        refine Txt.wp_ld (v := .slice la n lc) (ty := 63) (p := ⟨b, 0, none⟩) rfl (by kernel_rfl) (by kernel_rfl) (HM.out.cell 0 rfl 0 rfl) ?_; simp only [Act.put, List.setIfInBounds_toArray, List.set_cons_zero, List.set_cons_succ]
        refine Txt.anyw [1, 7] rfl (by kernel_rfl) (by simp) (Txt.all2 ?_ ?_)
        · refine Txt.opw rfl (Txt.wanted_none rfl) ?_
          refine St.wp_build0z slR rfl ?_; have HM : Hid _ := Sq.row0 HM.out (T := 51) encW rfl; simp only [Act.put, List.setIfInBounds_toArray, List.set_cons_zero, List.set_cons_succ]
          refine Txt.anyw [6, 7] rfl (by kernel_rfl) (by simp) (Txt.all2 ?_ ?_)
          · refine Txt.opw rfl (Txt.wanted_none rfl) ?_
            refine St.wp_appRz (v := .slice (some ⟨(World.drew (World.alloc w (.cells (we x).toArray 51))).heap.size, 0, none⟩) 0 0) (ad := la) (k := n) (c := lc) encW slR (by decide) rfl (by kernel_rfl) (HM.out.get 4 rfl) (by kernel_rfl) (Sq.own_sl (HM.out.get 1 rfl)).2 (by simp; omega) ?_; intro v6 w6 h6 k6 g6; have HM : Hid _ := HM.out.appR 4 rfl h6 k6 g6; clear h6 k6 g6; simp only [Act.put, List.setIfInBounds_toArray, List.set_cons_zero, List.set_cons_succ]
            refine Txt.anyw [7] rfl (by kernel_rfl) (by simp) (Txt.all1 ?_)
            refine Txt.opw rfl (Txt.wanted_none rfl) ?_
            refine Txt.wp_ldN (n := 34) (ty := 51) (b := w.heap.size) (i := 0) rfl (by kernel_rfl) (HM.out.range 3 rfl) (by kernel_rfl) (we_len x) ?_; simp only [Act.put, List.setIfInBounds_toArray, List.set_cons_zero, List.set_cons_succ]
            refine Txt.anyw [8] rfl (by kernel_rfl) (by simp) (Txt.all1 ?_)
            refine Txt.opw rfl (Txt.wanted_none rfl) ?_
            refine St.wp_build slR (by decide) rfl (we_len x) (by kernel_rfl) ?_; have HM : Hid _ := HM.out.alloc (.cells (we x).toArray 51) rfl; simp only [Act.put, List.setIfInBounds_toArray, List.set_cons_zero, List.set_cons_succ]
            refine Txt.anyw [9] rfl (by kernel_rfl) (by simp) (Txt.all1 ?_)
            refine Txt.opw rfl (Txt.wanted_none rfl) ?_
            refine St.wp_app1z (v := v6) (g := w6.heap.size) encW slR (by decide) rfl (by kernel_rfl) (HM.out.get 4 rfl) (by kernel_rfl) x rfl (HM.out.get 5 rfl) (by simp; have := Hn.out; omega) ?_; intro v7 w7 h7 k7 g7; have e0 : (([] ++ X) ++ [x]).length = n + 1 := (by simp [Hn.out]); obtain ⟨a7, c7, e7, _⟩ := h7.any; rw [e0] at e7; subst e7; have HM : Hid _ := HM.out.appR 4 rfl h7 k7 g7; rw [List.nil_append] at HM; clear e0 h7 k7 g7; simp only [Act.put, List.setIfInBounds_toArray, List.set_cons_zero, List.set_cons_succ]
            refine wpAny_take (i := 10) (v := ?_) rfl (by kernel_rfl) (by kernel_rfl) (by kernel_rfl) (fun _ _ _ h => by cases h.1) (Or.inl ⟨by kernel_rfl, ?_⟩) ?_; rotate_left; (focus (intro w; go_simp; try with_reducible rfl)); simp only [Act.put, List.setIfInBounds_toArray, List.set_cons_zero, List.set_cons_succ]
            refine wpAny_take (i := 11) (v := ?_) rfl (by kernel_rfl) (by kernel_rfl) (by kernel_rfl) (fun _ _ _ h => by cases h.1) (Or.inl ⟨by kernel_rfl, ?_⟩) ?_; rotate_left; (focus (intro w; go_simp; try with_reducible rfl)); simp only [Act.put, List.setIfInBounds_toArray, List.set_cons_zero, List.set_cons_succ]
            refine Txt.anyw [12] rfl (by kernel_rfl) (by simp) (Txt.all1 ?_)
            refine Txt.opw rfl (Txt.wanted_none rfl) ?_
            refine wp_storeRX (p := ⟨b, 0, none⟩) (ad := a7) (n := n + 1) (c := c7) rfl rfl (by kernel_rfl) (by kernel_rfl) (HM.out.cell 0 rfl 0 rfl) (HM.out.free 0 rfl 0) ?_; have HM : Hid _ := HM.out.setc 0 rfl 0 (.slice a7 (n + 1) c7)
            refine wpAny_done (by kernel_rfl) ?_ _
            refine ⟨rfl, ?_⟩
            exact ⟨.slice (some ⟨(World.drew (World.alloc w (.cells (we x).toArray 51))).heap.size, 0, none⟩) 0 0, v6, .slice (some ⟨w6.heap.size, 0, none⟩) 1 1, a7, c7, (by kernel_rfl), HM.out.sub _ [0, 4, 2, 3] (by decide) rfl⟩
          · refine Txt.opw rfl (Txt.wanted_none rfl) ?_
            refine Txt.wp_ldN (n := 34) (ty := 51) (b := w.heap.size) (i := 0) rfl (by kernel_rfl) (HM.out.range 3 rfl) (by kernel_rfl) (we_len x) ?_; simp only [Act.put, List.setIfInBounds_toArray, List.set_cons_zero, List.set_cons_succ]
            refine Txt.anyw [6, 8] rfl (by kernel_rfl) (by simp) (Txt.all2 ?_ ?_)
            · refine Txt.opw rfl (Txt.wanted_none rfl) ?_
              refine St.wp_appRz (v := .slice (some ⟨(World.drew (World.alloc w (.cells (we x).toArray 51))).heap.size, 0, none⟩) 0 0) (ad := la) (k := n) (c := lc) encW slR (by decide) rfl (by kernel_rfl) (HM.out.get 4 rfl) (by kernel_rfl) (Sq.own_sl (HM.out.get 1 rfl)).2 (by simp; omega) ?_; intro v6 w6 h6 k6 g6; have HM : Hid _ := HM.out.appR 4 rfl h6 k6 g6; clear h6 k6 g6; simp only [Act.put, List.setIfInBounds_toArray, List.set_cons_zero, List.set_cons_succ]
              refine Txt.anyw [8] rfl (by kernel_rfl) (by simp) (Txt.all1 ?_)
              refine Txt.opw rfl (Txt.wanted_none rfl) ?_
              refine St.wp_build slR (by decide) rfl (we_len x) (by kernel_rfl) ?_; have HM : Hid _ := HM.out.alloc (.cells (we x).toArray 51) rfl; simp only [Act.put, List.setIfInBounds_toArray, List.set_cons_zero, List.set_cons_succ]
              refine Txt.anyw [9] rfl (by kernel_rfl) (by simp) (Txt.all1 ?_)
              refine Txt.opw rfl (Txt.wanted_none rfl) ?_
              refine St.wp_app1z (v := v6) (g := w6.heap.size) encW slR (by decide) rfl (by kernel_rfl) (HM.out.get 4 rfl) (by kernel_rfl) x rfl (HM.out.get 5 rfl) (by simp; have := Hn.out; omega) ?_; intro v7 w7 h7 k7 g7; have e0 : (([] ++ X) ++ [x]).length = n + 1 := (by simp [Hn.out]); obtain ⟨a7, c7, e7, _⟩ := h7.any; rw [e0] at e7; subst e7; have HM : Hid _ := HM.out.appR 4 rfl h7 k7 g7; rw [List.nil_append] at HM; clear e0 h7 k7 g7; simp only [Act.put, List.setIfInBounds_toArray, List.set_cons_zero, List.set_cons_succ]
              refine wpAny_take (i := 10) (v := ?_) rfl (by kernel_rfl) (by kernel_rfl) (by kernel_rfl) (fun _ _ _ h => by cases h.1) (Or.inl ⟨by kernel_rfl, ?_⟩) ?_; rotate_left; (focus (intro w; go_simp; try with_reducible rfl)); simp only [Act.put, List.setIfInBounds_toArray, List.set_cons_zero, List.set_cons_succ]
              refine wpAny_take (i := 11) (v := ?_) rfl (by kernel_rfl) (by kernel_rfl) (by kernel_rfl) (fun _ _ _ h => by cases h.1) (Or.inl ⟨by kernel_rfl, ?_⟩) ?_; rotate_left; (focus (intro w; go_simp; try with_reducible rfl)); simp only [Act.put, List.setIfInBounds_toArray, List.set_cons_zero, List.set_cons_succ]
              refine Txt.anyw [12] rfl (by kernel_rfl) (by simp) (Txt.all1 ?_)
              refine Txt.opw rfl (Txt.wanted_none rfl) ?_
              refine wp_storeRX (p := ⟨b, 0, none⟩) (ad := a7) (n := n + 1) (c := c7) rfl rfl (by kernel_rfl) (by kernel_rfl) (HM.out.cell 0 rfl 0 rfl) (HM.out.free 0 rfl 0) ?_; have HM : Hid _ := HM.out.setc 0 rfl 0 (.slice a7 (n + 1) c7)
              refine wpAny_done (by kernel_rfl) ?_ _
              refine ⟨rfl, ?_⟩
              exact ⟨.slice (some ⟨(World.drew (World.alloc w (.cells (we x).toArray 51))).heap.size, 0, none⟩) 0 0, v6, .slice (some ⟨w6.heap.size, 0, none⟩) 1 1, a7, c7, (by kernel_rfl), HM.out.sub _ [0, 4, 2, 3] (by decide) rfl⟩
            · refine Txt.opw rfl (Txt.wanted_none rfl) ?_
              refine St.wp_build slR (by decide) rfl (we_len x) (by kernel_rfl) ?_; have HM : Hid _ := HM.out.alloc (.cells (we x).toArray 51) rfl; simp only [Act.put, List.setIfInBounds_toArray, List.set_cons_zero, List.set_cons_succ]
              refine Txt.anyw [6] rfl (by kernel_rfl) (by simp) (Txt.all1 ?_)
              refine Txt.opw rfl (Txt.wanted_none rfl) ?_
              refine St.wp_appRz (v := .slice (some ⟨(World.drew (World.alloc w (.cells (we x).toArray 51))).heap.size, 0, none⟩) 0 0) (ad := la) (k := n) (c := lc) encW slR (by decide) rfl (by kernel_rfl) (HM.out.get 4 rfl) (by kernel_rfl) (Sq.own_sl (HM.out.get 1 rfl)).2 (by simp; omega) ?_; intro v6 w6 h6 k6 g6; have HM : Hid _ := HM.out.appR 4 rfl h6 k6 g6; clear h6 k6 g6; simp only [Act.put, List.setIfInBounds_toArray, List.set_cons_zero, List.set_cons_succ]
              refine Txt.anyw [9] rfl (by kernel_rfl) (by simp) (Txt.all1 ?_)
              refine Txt.opw rfl (Txt.wanted_none rfl) ?_
              refine St.wp_app1z (v := v6) (g := (World.alloc (World.drew (World.alloc w (.cells (we x).toArray 51))) (.cells #[] 51)).heap.size) encW slR (by decide) rfl (by kernel_rfl) (HM.out.get 4 rfl) (by kernel_rfl) x rfl (HM.out.get 5 rfl) (by simp; have := Hn.out; omega) ?_; intro v7 w7 h7 k7 g7; have e0 : (([] ++ X) ++ [x]).length = n + 1 := (by simp [Hn.out]); obtain ⟨a7, c7, e7, _⟩ := h7.any; rw [e0] at e7; subst e7; have HM : Hid _ := HM.out.appR 4 rfl h7 k7 g7; rw [List.nil_append] at HM; clear e0 h7 k7 g7; simp only [Act.put, List.setIfInBounds_toArray, List.set_cons_zero, List.set_cons_succ]
              refine wpAny_take (i := 10) (v := ?_) rfl (by kernel_rfl) (by kernel_rfl) (by kernel_rfl) (fun _ _ _ h => by cases h.1) (Or.inl ⟨by kernel_rfl, ?_⟩) ?_; rotate_left; (focus (intro w; go_simp; try with_reducible rfl)); simp only [Act.put, List.setIfInBounds_toArray, List.set_cons_zero, List.set_cons_succ]
              refine wpAny_take (i := 11) (v := ?_) rfl (by kernel_rfl) (by kernel_rfl) (by kernel_rfl) (fun _ _ _ h => by cases h.1) (Or.inl ⟨by kernel_rfl, ?_⟩) ?_; rotate_left; (focus (intro w; go_simp; try with_reducible rfl)); simp only [Act.put, List.setIfInBounds_toArray, List.set_cons_zero, List.set_cons_succ]
              refine Txt.anyw [12] rfl (by kernel_rfl) (by simp) (Txt.all1 ?_)
              refine Txt.opw rfl (Txt.wanted_none rfl) ?_
              refine wp_storeRX (p := ⟨b, 0, none⟩) (ad := a7) (n := n + 1) (c := c7) rfl rfl (by kernel_rfl) (by kernel_rfl) (HM.out.cell 0 rfl 0 rfl) (HM.out.free 0 rfl 0) ?_; have HM : Hid _ := HM.out.setc 0 rfl 0 (.slice a7 (n + 1) c7)
              refine wpAny_done (by kernel_rfl) ?_ _
              refine ⟨rfl, ?_⟩
              exact ⟨.slice (some ⟨(World.drew (World.alloc w (.cells (we x).toArray 51))).heap.size, 0, none⟩) 0 0, v6, .slice (some ⟨(World.alloc (World.drew (World.alloc w (.cells (we x).toArray 51))) (.cells #[] 51)).heap.size, 0, none⟩) 1 1, a7, c7, (by kernel_rfl), HM.out.sub _ [0, 4, 2, 3] (by decide) rfl⟩
        · refine Txt.opw rfl (Txt.wanted_none rfl) ?_
          refine Txt.wp_ldN (n := 34) (ty := 51) (b := w.heap.size) (i := 0) rfl (by kernel_rfl) (HM.out.range 3 rfl) (by kernel_rfl) (we_len x) ?_; simp only [Act.put, List.setIfInBounds_toArray, List.set_cons_zero, List.set_cons_succ]
          refine Txt.anyw [1, 8] rfl (by kernel_rfl) (by simp) (Txt.all2 ?_ ?_)
          · refine Txt.opw rfl (Txt.wanted_none rfl) ?_
            refine St.wp_build0z slR rfl ?_; have HM : Hid _ := Sq.row0 HM.out (T := 51) encW rfl; simp only [Act.put, List.setIfInBounds_toArray, List.set_cons_zero, List.set_cons_succ]
            refine Txt.anyw [6, 8] rfl (by kernel_rfl) (by simp) (Txt.all2 ?_ ?_)
            · refine Txt.opw rfl (Txt.wanted_none rfl) ?_
              refine St.wp_appRz (v := .slice (some ⟨(World.drew (World.alloc w (.cells (we x).toArray 51))).heap.size, 0, none⟩) 0 0) (ad := la) (k := n) (c := lc) encW slR (by decide) rfl (by kernel_rfl) (HM.out.get 4 rfl) (by kernel_rfl) (Sq.own_sl (HM.out.get 1 rfl)).2 (by simp; omega) ?_; intro v6 w6 h6 k6 g6; have HM : Hid _ := HM.out.appR 4 rfl h6 k6 g6; clear h6 k6 g6; simp only [Act.put, List.setIfInBounds_toArray, List.set_cons_zero, List.set_cons_succ]
              refine Txt.anyw [8] rfl (by kernel_rfl) (by simp) (Txt.all1 ?_)
              refine Txt.opw rfl (Txt.wanted_none rfl) ?_
              refine St.wp_build slR (by decide) rfl (we_len x) (by kernel_rfl) ?_; have HM : Hid _ := HM.out.alloc (.cells (we x).toArray 51) rfl; simp only [Act.put, List.setIfInBounds_toArray, List.set_cons_zero, List.set_cons_succ]
              refine Txt.anyw [9] rfl (by kernel_rfl) (by simp) (Txt.all1 ?_)
              refine Txt.opw rfl (Txt.wanted_none rfl) ?_
              refine St.wp_app1z (v := v6) (g := w6.heap.size) encW slR (by decide) rfl (by kernel_rfl) (HM.out.get 4 rfl) (by kernel_rfl) x rfl (HM.out.get 5 rfl) (by simp; have := Hn.out; omega) ?_; intro v7 w7 h7 k7 g7; have e0 : (([] ++ X) ++ [x]).length = n + 1 := (by simp [Hn.out]); obtain ⟨a7, c7, e7, _⟩ := h7.any; rw [e0] at e7; subst e7; have HM : Hid _ := HM.out.appR 4 rfl h7 k7 g7; rw [List.nil_append] at HM; clear e0 h7 k7 g7; simp only [Act.put, List.setIfInBounds_toArray, List.set_cons_zero, List.set_cons_succ]
              refine wpAny_take (i := 10) (v := ?_) rfl (by kernel_rfl) (by kernel_rfl) (by kernel_rfl) (fun _ _ _ h => by cases h.1) (Or.inl ⟨by kernel_rfl, ?_⟩) ?_; rotate_left; (focus (intro w; go_simp; try with_reducible rfl)); simp only [Act.put, List.setIfInBounds_toArray, List.set_cons_zero, List.set_cons_succ]
              refine wpAny_take (i := 11) (v := ?_) rfl (by kernel_rfl) (by kernel_rfl) (by kernel_rfl) (fun _ _ _ h => by cases h.1) (Or.inl ⟨by kernel_rfl, ?_⟩) ?_; rotate_left; (focus (intro w; go_simp; try with_reducible rfl)); simp only [Act.put, List.setIfInBounds_toArray, List.set_cons_zero, List.set_cons_succ]
              refine Txt.anyw [12] rfl (by kernel_rfl) (by simp) (Txt.all1 ?_)
              refine Txt.opw rfl (Txt.wanted_none rfl) ?_
              refine wp_storeRX (p := ⟨b, 0, none⟩) (ad := a7) (n := n + 1) (c := c7) rfl rfl (by kernel_rfl) (by kernel_rfl) (HM.out.cell 0 rfl 0 rfl) (HM.out.free 0 rfl 0) ?_; have HM : Hid _ := HM.out.setc 0 rfl 0 (.slice a7 (n + 1) c7)
              refine wpAny_done (by kernel_rfl) ?_ _
              refine ⟨rfl, ?_⟩
              exact ⟨.slice (some ⟨(World.drew (World.alloc w (.cells (we x).toArray 51))).heap.size, 0, none⟩) 0 0, v6, .slice (some ⟨w6.heap.size, 0, none⟩) 1 1, a7, c7, (by kernel_rfl), HM.out.sub _ [0, 4, 2, 3] (by decide) rfl⟩
            · refine Txt.opw rfl (Txt.wanted_none rfl) ?_
              refine St.wp_build slR (by decide) rfl (we_len x) (by kernel_rfl) ?_; have HM : Hid _ := HM.out.alloc (.cells (we x).toArray 51) rfl; simp only [Act.put, List.setIfInBounds_toArray, List.set_cons_zero, List.set_cons_succ]
              refine Txt.anyw [6] rfl (by kernel_rfl) (by simp) (Txt.all1 ?_)
              refine Txt.opw rfl (Txt.wanted_none rfl) ?_
              refine St.wp_appRz (v := .slice (some ⟨(World.drew (World.alloc w (.cells (we x).toArray 51))).heap.size, 0, none⟩) 0 0) (ad := la) (k := n) (c := lc) encW slR (by decide) rfl (by kernel_rfl) (HM.out.get 4 rfl) (by kernel_rfl) (Sq.own_sl (HM.out.get 1 rfl)).2 (by simp; omega) ?_; intro v6 w6 h6 k6 g6; have HM : Hid _ := HM.out.appR 4 rfl h6 k6 g6; clear h6 k6 g6; simp only [Act.put, List.setIfInBounds_toArray, List.set_cons_zero, List.set_cons_succ]
              refine Txt.anyw [9] rfl (by kernel_rfl) (by simp) (Txt.all1 ?_)
              refine Txt.opw rfl (Txt.wanted_none rfl) ?_
              refine St.wp_app1z (v := v6) (g := (World.alloc (World.drew (World.alloc w (.cells (we x).toArray 51))) (.cells #[] 51)).heap.size) encW slR (by decide) rfl (by kernel_rfl) (HM.out.get 4 rfl) (by kernel_rfl) x rfl (HM.out.get 5 rfl) (by simp; have := Hn.out; omega) ?_; intro v7 w7 h7 k7 g7; have e0 : (([] ++ X) ++ [x]).length = n + 1 := (by simp [Hn.out]); obtain ⟨a7, c7, e7, _⟩ := h7.any; rw [e0] at e7; subst e7; have HM : Hid _ := HM.out.appR 4 rfl h7 k7 g7; rw [List.nil_append] at HM; clear e0 h7 k7 g7; simp only [Act.put, List.setIfInBounds_toArray, List.set_cons_zero, List.set_cons_succ]
              refine wpAny_take (i := 10) (v := ?_) rfl (by kernel_rfl) (by kernel_rfl) (by kernel_rfl) (fun _ _ _ h => by cases h.1) (Or.inl ⟨by kernel_rfl, ?_⟩) ?_; rotate_left; (focus (intro w; go_simp; try with_reducible rfl)); simp only [Act.put, List.setIfInBounds_toArray, List.set_cons_zero, List.set_cons_succ]
              refine wpAny_take (i := 11) (v := ?_) rfl (by kernel_rfl) (by kernel_rfl) (by kernel_rfl) (fun _ _ _ h => by cases h.1) (Or.inl ⟨by kernel_rfl, ?_⟩) ?_; rotate_left; (focus (intro w; go_simp; try with_reducible rfl)); simp only [Act.put, List.setIfInBounds_toArray, List.set_cons_zero, List.set_cons_succ]
              refine Txt.anyw [12] rfl (by kernel_rfl) (by simp) (Txt.all1 ?_)
              refine Txt.opw rfl (Txt.wanted_none rfl) ?_
              refine wp_storeRX (p := ⟨b, 0, none⟩) (ad := a7) (n := n + 1) (c := c7) rfl rfl (by kernel_rfl) (by kernel_rfl) (HM.out.cell 0 rfl 0 rfl) (HM.out.free 0 rfl 0) ?_; have HM : Hid _ := HM.out.setc 0 rfl 0 (.slice a7 (n + 1) c7)
              refine wpAny_done (by kernel_rfl) ?_ _
              refine ⟨rfl, ?_⟩
              exact ⟨.slice (some ⟨(World.drew (World.alloc w (.cells (we x).toArray 51))).heap.size, 0, none⟩) 0 0, v6, .slice (some ⟨(World.alloc (World.drew (World.alloc w (.cells (we x).toArray 51))) (.cells #[] 51)).heap.size, 0, none⟩) 1 1, a7, c7, (by kernel_rfl), HM.out.sub _ [0, 4, 2, 3] (by decide) rfl⟩
          · refine Txt.opw rfl (Txt.wanted_none rfl) ?_
            refine St.wp_build slR (by decide) rfl (we_len x) (by kernel_rfl) ?_; have HM : Hid _ := HM.out.alloc (.cells (we x).toArray 51) rfl; simp only [Act.put, List.setIfInBounds_toArray, List.set_cons_zero, List.set_cons_succ]
            refine Txt.anyw [1] rfl (by kernel_rfl) (by simp) (Txt.all1 ?_)
            refine Txt.opw rfl (Txt.wanted_none rfl) ?_
            refine St.wp_build0z slR rfl ?_; have HM : Hid _ := Sq.row0 HM.out (T := 51) encW rfl; simp only [Act.put, List.setIfInBounds_toArray, List.set_cons_zero, List.set_cons_succ]
            refine Txt.anyw [6] rfl (by kernel_rfl) (by simp) (Txt.all1 ?_)
            refine Txt.opw rfl (Txt.wanted_none rfl) ?_
            refine St.wp_appRz (v := .slice (some ⟨(World.alloc (World.drew (World.alloc w (.cells (we x).toArray 51))) (.cells (we x).toArray 51)).heap.size, 0, none⟩) 0 0) (ad := la) (k := n) (c := lc) encW slR (by decide) rfl (by kernel_rfl) (HM.out.get 5 rfl) (by kernel_rfl) (Sq.own_sl (HM.out.get 1 rfl)).2 (by simp; omega) ?_; intro v6 w6 h6 k6 g6; have HM : Hid _ := HM.out.appR 5 rfl h6 k6 g6; clear h6 k6 g6; simp only [Act.put, List.setIfInBounds_toArray, List.set_cons_zero, List.set_cons_succ]
            refine Txt.anyw [9] rfl (by kernel_rfl) (by simp) (Txt.all1 ?_)
            refine Txt.opw rfl (Txt.wanted_none rfl) ?_
            refine St.wp_app1z (v := v6) (g := (World.drew (World.alloc w (.cells (we x).toArray 51))).heap.size) encW slR (by decide) rfl (by kernel_rfl) (HM.out.get 5 rfl) (by kernel_rfl) x rfl (HM.out.get 4 rfl) (by simp; have := Hn.out; omega) ?_; intro v7 w7 h7 k7 g7; have e0 : (([] ++ X) ++ [x]).length = n + 1 := (by simp [Hn.out]); obtain ⟨a7, c7, e7, _⟩ := h7.any; rw [e0] at e7; subst e7; have HM : Hid _ := HM.out.appR 5 rfl h7 k7 g7; rw [List.nil_append] at HM; clear e0 h7 k7 g7; simp only [Act.put, List.setIfInBounds_toArray, List.set_cons_zero, List.set_cons_succ]
            refine wpAny_take (i := 10) (v := ?_) rfl (by kernel_rfl) (by kernel_rfl) (by kernel_rfl) (fun _ _ _ h => by cases h.1) (Or.inl ⟨by kernel_rfl, ?_⟩) ?_; rotate_left; (focus (intro w; go_simp; try with_reducible rfl)); simp only [Act.put, List.setIfInBounds_toArray, List.set_cons_zero, List.set_cons_succ]
            refine wpAny_take (i := 11) (v := ?_) rfl (by kernel_rfl) (by kernel_rfl) (by kernel_rfl) (fun _ _ _ h => by cases h.1) (Or.inl ⟨by kernel_rfl, ?_⟩) ?_; rotate_left; (focus (intro w; go_simp; try with_reducible rfl)); simp only [Act.put, List.setIfInBounds_toArray, List.set_cons_zero, List.set_cons_succ]
            refine Txt.anyw [12] rfl (by kernel_rfl) (by simp) (Txt.all1 ?_)
            refine Txt.opw rfl (Txt.wanted_none rfl) ?_
            refine wp_storeRX (p := ⟨b, 0, none⟩) (ad := a7) (n := n + 1) (c := c7) rfl rfl (by kernel_rfl) (by kernel_rfl) (HM.out.cell 0 rfl 0 rfl) (HM.out.free 0 rfl 0) ?_; have HM : Hid _ := HM.out.setc 0 rfl 0 (.slice a7 (n + 1) c7)
            refine wpAny_done (by kernel_rfl) ?_ _
            refine ⟨rfl, ?_⟩
            exact ⟨.slice (some ⟨(World.alloc (World.drew (World.alloc w (.cells (we x).toArray 51))) (.cells (we x).toArray 51)).heap.size, 0, none⟩) 0 0, v6, .slice (some ⟨(World.drew (World.alloc w (.cells (we x).toArray 51))).heap.size, 0, none⟩) 1 1, a7, c7, (by kernel_rfl), HM.out.sub _ [0, 5, 2, 3] (by decide) rfl⟩
      · refine Txt.opw rfl (Txt.wanted_none rfl) ?_
        refine Txt.wp_ldN (n := 34) (ty := 51) (b := w.heap.size) (i := 0) rfl (by kernel_rfl) (HM.out.range 3 rfl) (by kernel_rfl) (we_len x) ?_; simp only [Act.put, List.setIfInBounds_toArray, List.set_cons_zero, List.set_cons_succ]
        refine Txt.anyw [1, 5, 8] rfl (by kernel_rfl) (by simp) (Txt.all3 ?_ ?_ ?_)
        · refine Txt.opw rfl (Txt.wanted_none rfl) ?_
          refine St.wp_build0z slR rfl ?_; have HM : Hid _ := Sq.row0 HM.out (T := 51) encW rfl; simp only [Act.put, List.setIfInBounds_toArray, List.set_cons_zero, List.set_cons_succ]
          refine Txt.anyw [5, 8] rfl (by kernel_rfl) (by simp) (Txt.all2 ?_ ?_)
          · refine Txt.opw rfl (Txt.wanted_none rfl) ?_
            refine Txt.wp_ld (v := .slice la n lc) (ty := 63) (p := ⟨b, 0, none⟩) rfl (by kernel_rfl) (by kernel_rfl) (HM.out.cell 0 rfl 0 rfl) ?_; simp only [Act.put, List.setIfInBounds_toArray, List.set_cons_zero, List.set_cons_succ]
            refine Txt.anyw [6, 8] rfl (by kernel_rfl) (by simp) (Txt.all2 ?_ ?_)
            · refine Txt.opw rfl (Txt.wanted_none rfl) ?_
              refine St.wp_appRz (v := .slice (some ⟨(World.drew (World.alloc w (.cells (we x).toArray 51))).heap.size, 0, none⟩) 0 0) (ad := la) (k := n) (c := lc) encW slR (by decide) rfl (by kernel_rfl) (HM.out.get 4 rfl) (by kernel_rfl) (Sq.own_sl (HM.out.get 1 rfl)).2 (by simp; omega) ?_; intro v6 w6 h6 k6 g6; have HM : Hid _ := HM.out.appR 4 rfl h6 k6 g6; clear h6 k6 g6; simp only [Act.put, List.setIfInBounds_toArray, List.set_cons_zero, List.set_cons_succ]
              refine Txt.anyw [8] rfl (by kernel_rfl) (by simp) (Txt.all1 ?_)
              refine Txt.opw rfl (Txt.wanted_none rfl) ?_
              refine St.wp_build slR (by decide) rfl (we_len x) (by kernel_rfl) ?_; have HM : Hid _ := HM.out.alloc (.cells (we x).toArray 51) rfl; simp only [Act.put, List.setIfInBounds_toArray, List.set_cons_zero, List.set_cons_succ]
              refine Txt.anyw [9] rfl (by kernel_rfl) (by simp) (Txt.all1 ?_)
              refine Txt.opw rfl (Txt.wanted_none rfl) ?_
              refine St.wp_app1z (v := v6) (g := w6.heap.size) encW slR (by decide) rfl (by kernel_rfl) (HM.out.get 4 rfl) (by kernel_rfl) x rfl (HM.out.get 5 rfl) (by simp; have := Hn.out; omega) ?_; intro v7 w7 h7 k7 g7; have e0 : (([] ++ X) ++ [x]).length = n + 1 := (by simp [Hn.out]); obtain ⟨a7, c7, e7, _⟩ := h7.any; rw [e0] at e7; subst e7; have HM : Hid _ := HM.out.appR 4 rfl h7 k7 g7; rw [List.nil_append] at HM; clear e0 h7 k7 g7; simp only [Act.put, List.setIfInBounds_toArray, List.set_cons_zero, List.set_cons_succ]
              refine wpAny_take (i := 10) (v := ?_) rfl (by kernel_rfl) (by kernel_rfl) (by kernel_rfl) (fun _ _ _ h => by cases h.1) (Or.inl ⟨by kernel_rfl, ?_⟩) ?_; rotate_left; (focus (intro w; go_simp; try with_reducible rfl)); simp only [Act.put, List.setIfInBounds_toArray, List.set_cons_zero, List.set_cons_succ]
              refine wpAny_take (i := 11) (v := ?_) rfl (by kernel_rfl) (by kernel_rfl) (by kernel_rfl) (fun _ _ _ h => by cases h.1) (Or.inl ⟨by kernel_rfl, ?_⟩) ?_; rotate_left; (focus (intro w; go_simp; try with_reducible rfl)); simp only [Act.put, List.setIfInBounds_toArray, List.set_cons_zero, List.set_cons_succ]
              refine Txt.anyw [12] rfl (by kernel_rfl) (by simp) (Txt.all1 ?_)
              refine Txt.opw rfl (Txt.wanted_none rfl) ?_
              refine wp_storeRX (p := ⟨b, 0, none⟩) (ad := a7) (n := n + 1) (c := c7) rfl rfl (by kernel_rfl) (by kernel_rfl) (HM.out.cell 0 rfl 0 rfl) (HM.out.free 0 rfl 0) ?_; have HM : Hid _ := HM.out.setc 0 rfl 0 (.slice a7 (n + 1) c7)
              refine wpAny_done (by kernel_rfl) ?_ _
              refine ⟨rfl, ?_⟩
              exact ⟨.slice (some ⟨(World.drew (World.alloc w (.cells (we x).toArray 51))).heap.size, 0, none⟩) 0 0, v6, .slice (some ⟨w6.heap.size, 0, none⟩) 1 1, a7, c7, (by kernel_rfl), HM.out.sub _ [0, 4, 2, 3] (by decide) rfl⟩
            · refine Txt.opw rfl (Txt.wanted_none rfl) ?_
              refine St.wp_build slR (by decide) rfl (we_len x) (by kernel_rfl) ?_; have HM : Hid _ := HM.out.alloc (.cells (we x).toArray 51) rfl; simp only [Act.put, List.setIfInBounds_toArray, List.set_cons_zero, List.set_cons_succ]
              refine Txt.anyw [6] rfl (by kernel_rfl) (by simp) (Txt.all1 ?_)
              refine Txt.opw rfl (Txt.wanted_none rfl) ?_
              refine St.wp_appRz (v := .slice (some ⟨(World.drew (World.alloc w (.cells (we x).toArray 51))).heap.size, 0, none⟩) 0 0) (ad := la) (k := n) (c := lc) encW slR (by decide) rfl (by kernel_rfl) (HM.out.get 4 rfl) (by kernel_rfl) (Sq.own_sl (HM.out.get 1 rfl)).2 (by simp; omega) ?_; intro v6 w6 h6 k6 g6; have HM : Hid _ := HM.out.appR 4 rfl h6 k6 g6; clear h6 k6 g6; simp only [Act.put, List.setIfInBounds_toArray, List.set_cons_zero, List.set_cons_succ]
              refine Txt.anyw [9] rfl (by kernel_rfl) (by simp) (Txt.all1 ?_)
              refine Txt.opw rfl (Txt.wanted_none rfl) ?_
              refine St.wp_app1z (v := v6) (g := (World.alloc (World.drew (World.alloc w (.cells (we x).toArray 51))) (.cells #[] 51)).heap.size) encW slR (by decide) rfl (by kernel_rfl) (HM.out.get 4 rfl) (by kernel_rfl) x rfl (HM.out.get 5 rfl) (by simp; have := Hn.out; omega) ?_; intro v7 w7 h7 k7 g7; have e0 : (([] ++ X) ++ [x]).length = n + 1 := (by simp [Hn.out]); obtain ⟨a7, c7, e7, _⟩ := h7.any; rw [e0] at e7; subst e7; have HM : Hid _ := HM.out.appR 4 rfl h7 k7 g7; rw [List.nil_append] at HM; clear e0 h7 k7 g7; simp only [Act.put, List.setIfInBounds_toArray, List.set_cons_zero, List.set_cons_succ]
              refine wpAny_take (i := 10) (v := ?_) rfl (by kernel_rfl) (by kernel_rfl) (by kernel_rfl) (fun _ _ _ h => by cases h.1) (Or.inl ⟨by kernel_rfl, ?_⟩) ?_; rotate_left; (focus (intro w; go_simp; try with_reducible rfl)); simp only [Act.put, List.setIfInBounds_toArray, List.set_cons_zero, List.set_cons_succ]
              refine wpAny_take (i := 11) (v := ?_) rfl (by kernel_rfl) (by kernel_rfl) (by kernel_rfl) (fun _ _ _ h => by cases h.1) (Or.inl ⟨by kernel_rfl, ?_⟩) ?_; rotate_left; (focus (intro w; go_simp; try with_reducible rfl)); simp only [Act.put, List.setIfInBounds_toArray, List.set_cons_zero, List.set_cons_succ]
              refine Txt.anyw [12] rfl (by kernel_rfl) (by simp) (Txt.all1 ?_)
              refine Txt.opw rfl (Txt.wanted_none rfl) ?_
              refine wp_storeRX (p := ⟨b, 0, none⟩) (ad := a7) (n := n + 1) (c := c7) rfl rfl (by kernel_rfl) (by kernel_rfl) (HM.out.cell 0 rfl 0 rfl) (HM.out.free 0 rfl 0) ?_; have HM : Hid _ := HM.out.setc 0 rfl 0 (.slice a7 (n + 1) c7)
              refine wpAny_done (by kernel_rfl) ?_ _
              refine ⟨rfl, ?_⟩
              exact ⟨.slice (some ⟨(World.drew (World.alloc w (.cells (we x).toArray 51))).heap.size, 0, none⟩) 0 0, v6, .slice (some ⟨(World.alloc (World.drew (World.alloc w (.cells (we x).toArray 51))) (.cells #[] 51)).heap.size, 0, none⟩) 1 1, a7, c7, (by kernel_rfl), HM.out.sub _ [0, 4, 2, 3] (by decide) rfl⟩
          · refine Txt.opw rfl (Txt.wanted_none rfl) ?_
            refine St.wp_build slR (by decide) rfl (we_len x) (by kernel_rfl) ?_; have HM : Hid _ := HM.out.alloc (.cells (we x).toArray 51) rfl; simp only [Act.put, List.setIfInBounds_toArray, List.set_cons_zero, List.set_cons_succ]
            refine Txt.anyw [5] rfl (by kernel_rfl) (by simp) (Txt.all1 ?_)
            refine Txt.opw rfl (Txt.wanted_none rfl) ?_
            refine Txt.wp_ld (v := .slice la n lc) (ty := 63) (p := ⟨b, 0, none⟩) rfl (by kernel_rfl) (by kernel_rfl) (HM.out.cell 0 rfl 0 rfl) ?_; simp only [Act.put, List.setIfInBounds_toArray, List.set_cons_zero, List.set_cons_succ]
            refine Txt.anyw [6] rfl (by kernel_rfl) (by simp) (Txt.all1 ?_)
            refine Txt.opw rfl (Txt.wanted_none rfl) ?_
            refine St.wp_appRz (v := .slice (some ⟨(World.drew (World.alloc w (.cells (we x).toArray 51))).heap.size, 0, none⟩) 0 0) (ad := la) (k := n) (c := lc) encW slR (by decide) rfl (by kernel_rfl) (HM.out.get 4 rfl) (by kernel_rfl) (Sq.own_sl (HM.out.get 1 rfl)).2 (by simp; omega) ?_; intro v6 w6 h6 k6 g6; have HM : Hid _ := HM.out.appR 4 rfl h6 k6 g6; clear h6 k6 g6; simp only [Act.put, List.setIfInBounds_toArray, List.set_cons_zero, List.set_cons_succ]
            refine Txt.anyw [9] rfl (by kernel_rfl) (by simp) (Txt.all1 ?_)
            refine Txt.opw rfl (Txt.wanted_none rfl) ?_
            refine St.wp_app1z (v := v6) (g := (World.alloc (World.drew (World.alloc w (.cells (we x).toArray 51))) (.cells #[] 51)).heap.size) encW slR (by decide) rfl (by kernel_rfl) (HM.out.get 4 rfl) (by kernel_rfl) x rfl (HM.out.get 5 rfl) (by simp; have := Hn.out; omega) ?_; intro v7 w7 h7 k7 g7; have e0 : (([] ++ X) ++ [x]).length = n + 1 := (by simp [Hn.out]); obtain ⟨a7, c7, e7, _⟩ := h7.any; rw [e0] at e7; subst e7; have HM : Hid _ := HM.out.appR 4 rfl h7 k7 g7; rw [List.nil_append] at HM; clear e0 h7 k7 g7; simp only [Act.put, List.setIfInBounds_toArray, List.set_cons_zero, List.set_cons_succ]
            refine wpAny_take (i := 10) (v := ?_) rfl (by kernel_rfl) (by kernel_rfl) (by kernel_rfl) (fun _ _ _ h => by cases h.1) (Or.inl ⟨by kernel_rfl, ?_⟩) ?_; rotate_left; (focus (intro w; go_simp; try with_reducible rfl)); simp only [Act.put, List.setIfInBounds_toArray, List.set_cons_zero, List.set_cons_succ]
            refine wpAny_take (i := 11) (v := ?_) rfl (by kernel_rfl) (by kernel_rfl) (by kernel_rfl) (fun _ _ _ h => by cases h.1) (Or.inl ⟨by kernel_rfl, ?_⟩) ?_; rotate_left; (focus (intro w; go_simp; try with_reducible rfl)); simp only [Act.put, List.setIfInBounds_toArray, List.set_cons_zero, List.set_cons_succ]
            refine Txt.anyw [12] rfl (by kernel_rfl) (by simp) (Txt.all1 ?_)
            refine Txt.opw rfl (Txt.wanted_none rfl) ?_
            refine wp_storeRX (p := ⟨b, 0, none⟩) (ad := a7) (n := n + 1) (c := c7) rfl rfl (by kernel_rfl) (by kernel_rfl) (HM.out.cell 0 rfl 0 rfl) (HM.out.free 0 rfl 0) ?_; have HM : Hid _ := HM.out.setc 0 rfl 0 (.slice a7 (n + 1) c7)
            refine wpAny_done (by kernel_rfl) ?_ _
            refine ⟨rfl, ?_⟩
            exact ⟨.slice (some ⟨(World.drew (World.alloc w (.cells (we x).toArray 51))).heap.size, 0, none⟩) 0 0, v6, .slice (some ⟨(World.alloc (World.drew (World.alloc w (.cells (we x).toArray 51))) (.cells #[] 51)).heap.size, 0, none⟩) 1 1, a7, c7, (by kernel_rfl), HM.out.sub _ [0, 4, 2, 3] (by decide) rfl⟩
        · refine Txt.opw rfl (Txt.wanted_none rfl) ?_
          refine Txt.wp_ld (v := .slice la n lc) (ty := 63) (p := ⟨b, 0, none⟩) rfl (by kernel_rfl) (by kernel_rfl) (HM.out.cell 0 rfl 0 rfl) ?_; simp only [Act.put, List.setIfInBounds_toArray, List.set_cons_zero, List.set_cons_succ]
          refine Txt.anyw [1, 8] rfl (by kernel_rfl) (by simp) (Txt.all2 ?_ ?_)
          · refine Txt.opw rfl (Txt.wanted_none rfl) ?_
            refine St.wp_build0z slR rfl ?_; have HM : Hid _ := Sq.row0 HM.out (T := 51) encW rfl; simp only [Act.put, List.setIfInBounds_toArray, List.set_cons_zero, List.set_cons_succ]
            refine Txt.anyw [6, 8] rfl (by kernel_rfl) (by simp) (Txt.all2 ?_ ?_)
            · refine Txt.opw rfl (Txt.wanted_none rfl) ?_
              refine St.wp_appRz (v := .slice (some ⟨(World.drew (World.alloc w (.cells (we x).toArray 51))).heap.size, 0, none⟩) 0 0) (ad := la) (k := n) (c := lc) encW slR (by decide) rfl (by kernel_rfl) (HM.out.get 4 rfl) (by kernel_rfl) (Sq.own_sl (HM.out.get 1 rfl)).2 (by simp; omega) ?_; intro v6 w6 h6 k6 g6; have HM : Hid _ := HM.out.appR 4 rfl h6 k6 g6; clear h6 k6 g6; simp only [Act.put, List.setIfInBounds_toArray, List.set_cons_zero, List.set_cons_succ]
              refine Txt.anyw [8] rfl (by kernel_rfl) (by simp) (Txt.all1 ?_)
              refine Txt.opw rfl (Txt.wanted_none rfl) ?_
              refine St.wp_build slR (by decide) rfl (we_len x) (by kernel_rfl) ?_; have HM : Hid _ := HM.out.alloc (.cells (we x).toArray 51) rfl; simp only [Act.put, List.setIfInBounds_toArray, List.set_cons_zero, List.set_cons_succ]
              refine Txt.anyw [9] rfl (by kernel_rfl) (by simp) (Txt.all1 ?_)
              refine Txt.opw rfl (Txt.wanted_none rfl) ?_
              refine St.wp_app1z (v := v6) (g := w6.heap.size) encW slR (by decide) rfl (by kernel_rfl) (HM.out.get 4 rfl) (by kernel_rfl) x rfl (HM.out.get 5 rfl) (by simp; have := Hn.out; omega) ?_; intro v7 w7 h7 k7 g7; have e0 : (([] ++ X) ++ [x]).length = n + 1 := (by simp [Hn.out]); obtain ⟨a7, c7, e7, _⟩ := h7.any; rw [e0] at e7; subst e7; have HM : Hid _ := HM.out.appR 4 rfl h7 k7 g7; rw [List.nil_append] at HM; clear e0 h7 k7 g7; simp only [Act.put, List.setIfInBounds_toArray, List.set_cons_zero, List.set_cons_succ]
              refine wpAny_take (i := 10) (v := ?_) rfl (by kernel_rfl) (by kernel_rfl) (by kernel_rfl) (fun _ _ _ h => by cases h.1) (Or.inl ⟨by kernel_rfl, ?_⟩) ?_; rotate_left; (focus (intro w; go_simp; try with_reducible rfl)); simp only [Act.put, List.setIfInBounds_toArray, List.set_cons_zero, List.set_cons_succ]
              refine wpAny_take (i := 11) (v := ?_) rfl (by kernel_rfl) (by kernel_rfl) (by kernel_rfl) (fun _ _ _ h => by cases h.1) (Or.inl ⟨by kernel_rfl, ?_⟩) ?_; rotate_left; (focus (intro w; go_simp; try with_reducible rfl)); simp only [Act.put, List.setIfInBounds_toArray, List.set_cons_zero, List.set_cons_succ]
              refine Txt.anyw [12] rfl (by kernel_rfl) (by simp) (Txt.all1 ?_)
              refine Txt.opw rfl (Txt.wanted_none rfl) ?_
              refine wp_storeRX (p := ⟨b, 0, none⟩) (ad := a7) (n := n + 1) (c := c7) rfl rfl (by kernel_rfl) (by kernel_rfl) (HM.out.cell 0 rfl 0 rfl) (HM.out.free 0 rfl 0) ?_; have HM : Hid _ := HM.out.setc 0 rfl 0 (.slice a7 (n + 1) c7)
              refine wpAny_done (by kernel_rfl) ?_ _
              refine ⟨rfl, ?_⟩
              exact ⟨.slice (some ⟨(World.drew (World.alloc w (.cells (we x).toArray 51))).heap.size, 0, none⟩) 0 0, v6, .slice (some ⟨w6.heap.size, 0, none⟩) 1 1, a7, c7, (by kernel_rfl), HM.out.sub _ [0, 4, 2, 3] (by decide) rfl⟩
            · refine Txt.opw rfl (Txt.wanted_none rfl) ?_
              refine St.wp_build slR (by decide) rfl (we_len x) (by kernel_rfl) ?_; have HM : Hid _ := HM.out.alloc (.cells (we x).toArray 51) rfl; simp only [Act.put, List.setIfInBounds_toArray, List.set_cons_zero, List.set_cons_succ]
              refine Txt.anyw [6] rfl (by kernel_rfl) (by simp) (Txt.all1 ?_)
              refine Txt.opw rfl (Txt.wanted_none rfl) ?_
              refine St.wp_appRz (v := .slice (some ⟨(World.drew (World.alloc w (.cells (we x).toArray 51))).heap.size, 0, none⟩) 0 0) (ad := la) (k := n) (c := lc) encW slR (by decide) rfl (by kernel_rfl) (HM.out.get 4 rfl) (by kernel_rfl) (Sq.own_sl (HM.out.get 1 rfl)).2 (by simp; omega) ?_; intro v6 w6 h6 k6 g6; have HM : Hid _ := HM.out.appR 4 rfl h6 k6 g6; clear h6 k6 g6; simp only [Act.put, List.setIfInBounds_toArray, List.set_cons_zero, List.set_cons_succ]
              refine Txt.anyw [9] rfl (by kernel_rfl) (by simp) (Txt.all1 ?_)
              refine Txt.opw rfl (Txt.wanted_none rfl) ?_
              refine St.wp_app1z (v := v6) (g := (World.alloc (World.drew (World.alloc w (.cells (we x).toArray 51))) (.cells #[] 51)).heap.size) encW slR (by decide) rfl (by kernel_rfl) (HM.out.get 4 rfl) (by kernel_rfl) x rfl (HM.out.get 5 rfl) (by simp; have := Hn.out; omega) ?_; intro v7 w7 h7 k7 g7; have e0 : (([] ++ X) ++ [x]).length = n + 1 := (by simp [Hn.out]); obtain ⟨a7, c7, e7, _⟩ := h7.any; rw [e0] at e7; subst e7; have HM : Hid _ := HM.out.appR 4 rfl h7 k7 g7; rw [List.nil_append] at HM; clear e0 h7 k7 g7; simp only [Act.put, List.setIfInBounds_toArray, List.set_cons_zero, List.set_cons_succ]
              refine wpAny_take (i := 10) (v := ?_) rfl (by kernel_rfl) (by kernel_rfl) (by kernel_rfl) (fun _ _ _ h => by cases h.1) (Or.inl ⟨by kernel_rfl, ?_⟩) ?_; rotate_left; (focus (intro w; go_simp; try with_reducible rfl)); simp only [Act.put, List.setIfInBounds_toArray, List.set_cons_zero, List.set_cons_succ]
              refine wpAny_take (i := 11) (v := ?_) rfl (by kernel_rfl) (by kernel_rfl) (by kernel_rfl) (fun _ _ _ h => by cases h.1) (Or.inl ⟨by kernel_rfl, ?_⟩) ?_; rotate_left; (focus (intro w; go_simp; try with_reducible rfl)); simp only [Act.put, List.setIfInBounds_toArray, List.set_cons_zero, List.set_cons_succ]
              refine Txt.anyw [12] rfl (by kernel_rfl) (by simp) (Txt.all1 ?_)
              refine Txt.opw rfl (Txt.wanted_none rfl) ?_
              refine wp_storeRX (p := ⟨b, 0, none⟩) (ad := a7) (n := n + 1) (c := c7) rfl rfl (by kernel_rfl) (by kernel_rfl) (HM.out.cell 0 rfl 0 rfl) (HM.out.free 0 rfl 0) ?_; have HM : Hid _ := HM.out.setc 0 rfl 0 (.slice a7 (n + 1) c7)
              refine wpAny_done (by kernel_rfl) ?_ _
              refine ⟨rfl, ?_⟩
              exact ⟨.slice (some ⟨(World.drew (World.alloc w (.cells (we x).toArray 51))).heap.size, 0, none⟩) 0 0, v6, .slice (some ⟨(World.alloc (World.drew (World.alloc w (.cells (we x).toArray 51))) (.cells #[] 51)).heap.size, 0, none⟩) 1 1, a7, c7, (by kernel_rfl), HM.out.sub _ [0, 4, 2, 3] (by decide) rfl⟩
          · refine Txt.opw rfl (Txt.wanted_none rfl) ?_
            refine St.wp_build slR (by decide) rfl (we_len x) (by kernel_rfl) ?_; have HM : Hid _ := HM.out.alloc (.cells (we x).toArray 51) rfl; simp only [Act.put, List.setIfInBounds_toArray, List.set_cons_zero, List.set_cons_succ]
            refine Txt.anyw [1] rfl (by kernel_rfl) (by simp) (Txt.all1 ?_)
            refine Txt.opw rfl (Txt.wanted_none rfl) ?_
            refine St.wp_build0z slR rfl ?_; have HM : Hid _ := Sq.row0 HM.out (T := 51) encW rfl; simp only [Act.put, List.setIfInBounds_toArray, List.set_cons_zero, List.set_cons_succ]
            refine Txt.anyw [6] rfl (by kernel_rfl) (by simp) (Txt.all1 ?_)
            refine Txt.opw rfl (Txt.wanted_none rfl) ?_
            refine St.wp_appRz (v := .slice (some ⟨(World.alloc (World.drew (World.alloc w (.cells (we x).toArray 51))) (.cells (we x).toArray 51)).heap.size, 0, none⟩) 0 0) (ad := la) (k := n) (c := lc) encW slR (by decide) rfl (by kernel_rfl) (HM.out.get 5 rfl) (by kernel_rfl) (Sq.own_sl (HM.out.get 1 rfl)).2 (by simp; omega) ?_; intro v6 w6 h6 k6 g6; have HM : Hid _ := HM.out.appR 5 rfl h6 k6 g6; clear h6 k6 g6; simp only [Act.put, List.setIfInBounds_toArray, List.set_cons_zero, List.set_cons_succ]
            refine Txt.anyw [9] rfl (by kernel_rfl) (by simp) (Txt.all1 ?_)
            refine Txt.opw rfl (Txt.wanted_none rfl) ?_
            refine St.wp_app1z (v := v6) (g := (World.drew (World.alloc w (.cells (we x).toArray 51))).heap.size) encW slR (by decide) rfl (by kernel_rfl) (HM.out.get 5 rfl) (by kernel_rfl) x rfl (HM.out.get 4 rfl) (by simp; have := Hn.out; omega) ?_; intro v7 w7 h7 k7 g7; have e0 : (([] ++ X) ++ [x]).length = n + 1 := (by simp [Hn.out]); obtain ⟨a7, c7, e7, _⟩ := h7.any; rw [e0] at e7; subst e7; have HM : Hid _ := HM.out.appR 5 rfl h7 k7 g7; rw [List.nil_append] at HM; clear e0 h7 k7 g7; simp only [Act.put, List.setIfInBounds_toArray, List.set_cons_zero, List.set_cons_succ]
            refine wpAny_take (i := 10) (v := ?_) rfl (by kernel_rfl) (by kernel_rfl) (by kernel_rfl) (fun _ _ _ h => by cases h.1) (Or.inl ⟨by kernel_rfl, ?_⟩) ?_; rotate_left; (focus (intro w; go_simp; try with_reducible rfl)); simp only [Act.put, List.setIfInBounds_toArray, List.set_cons_zero, List.set_cons_succ]
            refine wpAny_take (i := 11) (v := ?_) rfl (by kernel_rfl) (by kernel_rfl) (by kernel_rfl) (fun _ _ _ h => by cases h.1) (Or.inl ⟨by kernel_rfl, ?_⟩) ?_; rotate_left; (focus (intro w; go_simp; try with_reducible rfl)); simp only [Act.put, List.setIfInBounds_toArray, List.set_cons_zero, List.set_cons_succ]
            refine Txt.anyw [12] rfl (by kernel_rfl) (by simp) (Txt.all1 ?_)
            refine Txt.opw rfl (Txt.wanted_none rfl) ?_
            refine wp_storeRX (p := ⟨b, 0, none⟩) (ad := a7) (n := n + 1) (c := c7) rfl rfl (by kernel_rfl) (by kernel_rfl) (HM.out.cell 0 rfl 0 rfl) (HM.out.free 0 rfl 0) ?_; have HM : Hid _ := HM.out.setc 0 rfl 0 (.slice a7 (n + 1) c7)
            refine wpAny_done (by kernel_rfl) ?_ _
            refine ⟨rfl, ?_⟩
            exact ⟨.slice (some ⟨(World.alloc (World.drew (World.alloc w (.cells (we x).toArray 51))) (.cells (we x).toArray 51)).heap.size, 0, none⟩) 0 0, v6, .slice (some ⟨(World.drew (World.alloc w (.cells (we x).toArray 51))).heap.size, 0, none⟩) 1 1, a7, c7, (by kernel_rfl), HM.out.sub _ [0, 5, 2, 3] (by decide) rfl⟩
        · refine Txt.opw rfl (Txt.wanted_none rfl) ?_
          refine St.wp_build slR (by decide) rfl (we_len x) (by kernel_rfl) ?_; have HM : Hid _ := HM.out.alloc (.cells (we x).toArray 51) rfl; simp only [Act.put, List.setIfInBounds_toArray, List.set_cons_zero, List.set_cons_succ]
          refine Txt.anyw [1, 5] rfl (by kernel_rfl) (by simp) (Txt.all2 ?_ ?_)
          · refine Txt.opw rfl (Txt.wanted_none rfl) ?_
            refine St.wp_build0z slR rfl ?_; have HM : Hid _ := Sq.row0 HM.out (T := 51) encW rfl; simp only [Act.put, List.setIfInBounds_toArray, List.set_cons_zero, List.set_cons_succ]
            refine Txt.anyw [5] rfl (by kernel_rfl) (by simp) (Txt.all1 ?_)
            refine Txt.opw rfl (Txt.wanted_none rfl) ?_
            refine Txt.wp_ld (v := .slice la n lc) (ty := 63) (p := ⟨b, 0, none⟩) rfl (by kernel_rfl) (by kernel_rfl) (HM.out.cell 0 rfl 0 rfl) ?_; simp only [Act.put, List.setIfInBounds_toArray, List.set_cons_zero, List.set_cons_succ]
            refine Txt.anyw [6] rfl (by kernel_rfl) (by simp) (Txt.all1 ?_)
            refine Txt.opw rfl (Txt.wanted_none rfl) ?_
            refine St.wp_appRz (v := .slice (some ⟨(World.alloc (World.drew (World.alloc w (.cells (we x).toArray 51))) (.cells (we x).toArray 51)).heap.size, 0, none⟩) 0 0) (ad := la) (k := n) (c := lc) encW slR (by decide) rfl (by kernel_rfl) (HM.out.get 5 rfl) (by kernel_rfl) (Sq.own_sl (HM.out.get 1 rfl)).2 (by simp; omega) ?_; intro v6 w6 h6 k6 g6; have HM : Hid _ := HM.out.appR 5 rfl h6 k6 g6; clear h6 k6 g6; simp only [Act.put, List.setIfInBounds_toArray, List.set_cons_zero, List.set_cons_succ]
            refine Txt.anyw [9] rfl (by kernel_rfl) (by simp) (Txt.all1 ?_)
            refine Txt.opw rfl (Txt.wanted_none rfl) ?_
            refine St.wp_app1z (v := v6) (g := (World.drew (World.alloc w (.cells (we x).toArray 51))).heap.size) encW slR (by decide) rfl (by kernel_rfl) (HM.out.get 5 rfl) (by kernel_rfl) x rfl (HM.out.get 4 rfl) (by simp; have := Hn.out; omega) ?_; intro v7 w7 h7 k7 g7; have e0 : (([] ++ X) ++ [x]).length = n + 1 := (by simp [Hn.out]); obtain ⟨a7, c7, e7, _⟩ := h7.any; rw [e0] at e7; subst e7; have HM : Hid _ := HM.out.appR 5 rfl h7 k7 g7; rw [List.nil_append] at HM; clear e0 h7 k7 g7; simp only [Act.put, List.setIfInBounds_toArray, List.set_cons_zero, List.set_cons_succ]
            refine wpAny_take (i := 10) (v := ?_) rfl (by kernel_rfl) (by kernel_rfl) (by kernel_rfl) (fun _ _ _ h => by cases h.1) (Or.inl ⟨by kernel_rfl, ?_⟩) ?_; rotate_left; (focus (intro w; go_simp; try with_reducible rfl)); simp only [Act.put, List.setIfInBounds_toArray, List.set_cons_zero, List.set_cons_succ]
            refine wpAny_take (i := 11) (v := ?_) rfl (by kernel_rfl) (by kernel_rfl) (by kernel_rfl) (fun _ _ _ h => by cases h.1) (Or.inl ⟨by kernel_rfl, ?_⟩) ?_; rotate_left; (focus (intro w; go_simp; try with_reducible rfl)); simp only [Act.put, List.setIfInBounds_toArray, List.set_cons_zero, List.set_cons_succ]
            refine Txt.anyw [12] rfl (by kernel_rfl) (by simp) (Txt.all1 ?_)
            refine Txt.opw rfl (Txt.wanted_none rfl) ?_
            refine wp_storeRX (p := ⟨b, 0, none⟩) (ad := a7) (n := n + 1) (c := c7) rfl rfl (by kernel_rfl) (by kernel_rfl) (HM.out.cell 0 rfl 0 rfl) (HM.out.free 0 rfl 0) ?_; have HM : Hid _ := HM.out.setc 0 rfl 0 (.slice a7 (n + 1) c7)
            refine wpAny_done (by kernel_rfl) ?_ _
            refine ⟨rfl, ?_⟩
            exact ⟨.slice (some ⟨(World.alloc (World.drew (World.alloc w (.cells (we x).toArray 51))) (.cells (we x).toArray 51)).heap.size, 0, none⟩) 0 0, v6, .slice (some ⟨(World.drew (World.alloc w (.cells (we x).toArray 51))).heap.size, 0, none⟩) 1 1, a7, c7, (by kernel_rfl), HM.out.sub _ [0, 5, 2, 3] (by decide) rfl⟩
          · refine Txt.opw rfl (Txt.wanted_none rfl) ?_
            refine Txt.wp_ld (v := .slice la n lc) (ty := 63) (p := ⟨b, 0, none⟩) rfl (by kernel_rfl) (by kernel_rfl) (HM.out.cell 0 rfl 0 rfl) ?_; simp only [Act.put, List.setIfInBounds_toArray, List.set_cons_zero, List.set_cons_succ]
            refine Txt.anyw [1] rfl (by kernel_rfl) (by simp) (Txt.all1 ?_)
            refine Txt.opw rfl (Txt.wanted_none rfl) ?_
            refine St.wp_build0z slR rfl ?_; have HM : Hid _ := Sq.row0 HM.out (T := 51) encW rfl; simp only [Act.put, List.setIfInBounds_toArray, List.set_cons_zero, List.set_cons_succ]
            refine Txt.anyw [6] rfl (by kernel_rfl) (by simp) (Txt.all1 ?_)
            refine Txt.opw rfl (Txt.wanted_none rfl) ?_
            refine St.wp_appRz (v := .slice (some ⟨(World.alloc (World.drew (World.alloc w (.cells (we x).toArray 51))) (.cells (we x).toArray 51)).heap.size, 0, none⟩) 0 0) (ad := la) (k := n) (c := lc) encW slR (by decide) rfl (by kernel_rfl) (HM.out.get 5 rfl) (by kernel_rfl) (Sq.own_sl (HM.out.get 1 rfl)).2 (by simp; omega) ?_; intro v6 w6 h6 k6 g6; have HM : Hid _ := HM.out.appR 5 rfl h6 k6 g6; clear h6 k6 g6; simp only [Act.put, List.setIfInBounds_toArray, List.set_cons_zero, List.set_cons_succ]
            refine Txt.anyw [9] rfl (by kernel_rfl) (by simp) (Txt.all1 ?_)
            refine Txt.opw rfl (Txt.wanted_none rfl) ?_
            refine St.wp_app1z (v := v6) (g := (World.drew (World.alloc w (.cells (we x).toArray 51))).heap.size) encW slR (by decide) rfl (by kernel_rfl) (HM.out.get 5 rfl) (by kernel_rfl) x rfl (HM.out.get 4 rfl) (by simp; have := Hn.out; omega) ?_; intro v7 w7 h7 k7 g7; have e0 : (([] ++ X) ++ [x]).length = n + 1 := (by simp [Hn.out]); obtain ⟨a7, c7, e7, _⟩ := h7.any; rw [e0] at e7; subst e7; have HM : Hid _ := HM.out.appR 5 rfl h7 k7 g7; rw [List.nil_append] at HM; clear e0 h7 k7 g7; simp only [Act.put, List.setIfInBounds_toArray, List.set_cons_zero, List.set_cons_succ]
            refine wpAny_take (i := 10) (v := ?_) rfl (by kernel_rfl) (by kernel_rfl) (by kernel_rfl) (fun _ _ _ h => by cases h.1) (Or.inl ⟨by kernel_rfl, ?_⟩) ?_; rotate_left; (focus (intro w; go_simp; try with_reducible rfl)); simp only [Act.put, List.setIfInBounds_toArray, List.set_cons_zero, List.set_cons_succ]
            refine wpAny_take (i := 11) (v := ?_) rfl (by kernel_rfl) (by kernel_rfl) (by kernel_rfl) (fun _ _ _ h => by cases h.1) (Or.inl ⟨by kernel_rfl, ?_⟩) ?_; rotate_left; (focus (intro w; go_simp; try with_reducible rfl)); simp only [Act.put, List.setIfInBounds_toArray, List.set_cons_zero, List.set_cons_succ]
            refine Txt.anyw [12] rfl (by kernel_rfl) (by simp) (Txt.all1 ?_)
            refine Txt.opw rfl (Txt.wanted_none rfl) ?_
            refine wp_storeRX (p := ⟨b, 0, none⟩) (ad := a7) (n := n + 1) (c := c7) rfl rfl (by kernel_rfl) (by kernel_rfl) (HM.out.cell 0 rfl 0 rfl) (HM.out.free 0 rfl 0) ?_; have HM : Hid _ := HM.out.setc 0 rfl 0 (.slice a7 (n + 1) c7)
            refine wpAny_done (by kernel_rfl) ?_ _
            refine ⟨rfl, ?_⟩
            exact ⟨.slice (some ⟨(World.alloc (World.drew (World.alloc w (.cells (we x).toArray 51))) (.cells (we x).toArray 51)).heap.size, 0, none⟩) 0 0, v6, .slice (some ⟨(World.drew (World.alloc w (.cells (we x).toArray 51))).heap.size, 0, none⟩) 1 1, a7, c7, (by kernel_rfl), HM.out.sub _ [0, 5, 2, 3] (by decide) rfl⟩
    rintro a' w' ⟨u1, u6, u8, a7, c7, rfl, hM⟩
    have HM : Hid _ := hM.out
    clear hM
    simp only [Act.put, List.setIfInBounds_toArray, List.set_cons_zero, List.set_cons_succ]
    --END3
    have HAt : Hid (At w' oa on ov) := At.keep0 HA.out HM.out.keep HD.out
    have HGt : Hid (At w' ga g G) := Sq.own_idat (c := gc) (HM.out.get 2 rfl)
    have c1 := HM.out.cell 0 rfl 1 (v := .slice ga g gc) rfl
    go_wp2_with (first | (go_at_call 60; refine (xboth_any _ oa ga on oc g gc G ov HGt.out HAt.out (by omega)).mono ?_; rintro e w5 ⟨v5, rfl, n5⟩; obtain ⟨a5, q5, c5, e5⟩ : ∃ a n c, v5 = .slice a n c := (by obtain ⟨a, c, e, _⟩ := n5.1.at; exact ⟨_, _, _, e⟩); have HM : Hid _ := HM.out.add (x := ids v5 (IdL.setL (G ++ ov))) n5.2.1 n5.1 (fun k hk => ⟨n5.2.2 k hk, n5.1.lt hk⟩); subst e5; clear n5 c1) | ((with_reducible refine at_store 29 ?_); refine Go.wpList_plain rfl fun K hK => wp_storeI rfl rfl rfl rfl (HM.out.cell 0 rfl 1 rfl) (HM.out.free 0 rfl 1) (hK _ _ ?_); have HM : Hid _ := HM.out.setc 0 rfl 1 (.slice a5 q5 c5)))
    go_ret
    exact ⟨by rw [HC.out]; rfl, fun h => absurd HC.out h, fun _ => ⟨_, _, MXTo.of (HM.out.sub _ [0, 1, 4] (by decide) rfl)⟩⟩
end Mu
end Go.Proofs.Ytgpimeobkacniaa


namespace Go.Proofs.Ytgpimeobkacniaa
open Go.RowKit
namespace Mu
open Oct Ids Mp
open Mem (M It blk ids rows)
open Sq (at_load at_alloc at_store own_sl own_fm row0)
structure XGetPost (w : World) (X : List Wr) (G : List Wd) (key : ByteArray) (e : Ending) (w' : World) : Prop where
  ex : ∃ v l, e = .returned v ∧ M (fun _ => False) w w' [rS v (getL l key)] ∧ l.Pairwise ltP ∧ (∀ p, p ∈ l ↔ ∃ x, (x ∈ X ∧ x.u ∉ G) ∧ kv x = p) ∧ l.length ≤ X.length
set_option maxRecDepth 100000 in
set_option maxHeartbeats 16000000 in
theorem xget_any (w : World) (b : Nat) (lv gv : Value) (X : List Wr) (G : List Wd) (h : MxAt w b lv gv X G) (hX : X.length ≤ 1000) (hG : G.length ≤ 1000) (key : ByteArray) :
    Calls Try.prog 37 #[.pointer (some ⟨b, 0, none⟩), .string key] w (XGetPost w X G key) := by
  have HSo : Hid (Calls Try.prog 33 #[.pointer (some ⟨b, 0, none⟩)] w (XLiPost w X G)) := xlist_any w b lv gv X G h hX hG
  have HXl : Hid (X.length ≤ 1000) := hX
  clear h hX hG
  go_enter Try.func37, Try.ntmps37
  go_wp2_with (first | (go_at_call 33; refine HSo.out.mono ?_; rintro e w1 ⟨v1, l, rfl, m1, hr1, hm1, hl1⟩; obtain ⟨la, lc, el, _⟩ := (show OwnP w1 v1 l from m1.get 0 rfl).any; subst el; have HM : Hid (M (fun _ => False) w w1 [rP (.slice la l.length lc) l]) := m1; have HR : Hid (l.Pairwise ltP) := hr1; have HMm : Hid (∀ p, p ∈ l ↔ ∃ x, (x ∈ X ∧ x.u ∉ G) ∧ kv x = p) := hm1; have HDl : Hid (l.length ≤ X.length) := hl1; clear m1 hr1 hm1 hl1; obtain ⟨q, hq⟩ : ∃ q, l.length = q := ⟨_, rfl⟩; have Hq : Hid (l.length = q) := hq; rw [hq] at HM ⊢; clear hq))
  have HM : Hid (M (fun _ => False) w w1 [rP (.slice la q lc) l, rS (.slice none 0 0) []]) := HM.out.nilR 9 1 es1
  have hq1 : q ≤ 1000 := by have := HXl.out; have := Hq.out; have := HDl.out; omega
  go_loopw [5, 7] (fun s5 s7 wr => ∃ (k : Nat) (v : Value), k ≤ q ∧ s5 = v ∧ s7 = .int .i64 k ∧ M (fun _ => False) w wr [rP (.slice la q lc) l, rS v (getL (l.take k) key)]) (fun _ s7 _ => q - (intOf s7).toNat)
  case atStart => exact ⟨0, _, Nat.zero_le _, rfl, by go_num, HM.out⟩
  case round =>
    clear HM
    obtain ⟨k, v, hk, e1, rfl, hM⟩ := hrel
    replace e1 := e1.symm
    subst e1
    have HM : Hid (M (fun _ => False) w wr [rP (.slice la q lc) l, rS v (getL (l.take k) key)]) := hM
    clear hM
    by_cases hlt : k < q
    · obtain ⟨p, hp⟩ : ∃ x, l[k]? = some x := ⟨_, List.getElem?_eq_getElem (by rw [Hq.out]; exact hlt)⟩
      obtain ⟨g0, o0, e0, _, hr0⟩ := (own_sl (show OwnP wr (.slice la q lc) l from HM.out.get 0 rfl)).2.lay.resolve_left (by omega)
      subst e0
      obtain ⟨d0, d1⟩ := prc (hr0 k p hp)
      have Hp : Hid (l[k]? = some p) := hp
      have HKl : Hid ((getL (l.take k) key).length ≤ 1000) := by
        show _ ≤ _
        have := getL_len (l.take k) key
        rw [List.length_take] at this
        omega
      clear hr0 hp
      by_cases hkey : p.1.toList = key.toList
      · have HE : Hid _ := getL_in Hp.out hkey
        go_wp2_with (first | (refine wl_build_s rfl rfl rfl ?_; have HM : Hid _ := HM.out.alloc (.cells #[.string p.2] 9) (by first | rfl | simp only [World.size_alloc]); simp only [Act.put, List.setIfInBounds_toArray, List.set_cons_zero, List.set_cons_succ]) | (refine St.wl_app1z encS slS (by decide) rfl rfl rfl (HM.out.get 1 rfl) rfl p.2 (show _ = #[Value.string p.2] from rfl) (HM.out.get 2 rfl) (by have := HKl.out; omega) ?_; intro v4 w4 h4 k4 g4; have HM : Hid _ := HM.out.appR 1 rfl h4 k4 g4; clear h4 k4 g4; simp only [Act.put, List.setIfInBounds_toArray, List.set_cons_zero, List.set_cons_succ]))
        go_roundw
        case rel => exact ⟨k + 1, _, by omega, rfl, by go_num, by rw [HE.out]; exact HM.out.take 2⟩
        case measure => simp [intOf]; omega
      · have HE : Hid _ := getL_out Hp.out hkey
        have hkb : (p.1.toList == key.toList) = false := by simpa using hkey
        have hcmp : ∀ w, Sem.run Try.prog (binOp .eql 9 (.string p.1) (.string key)) w = .ok (.bool false) w := fun w => by
          rw [← hkb]
          rfl
        go_wp2
        go_roundw
        case rel => exact ⟨k + 1, _, by omega, rfl, by go_num, by rw [HE.out]; exact HM.out.take 2⟩
        case measure => simp [intOf]; omega
    · obtain rfl : k = q := by omega
      have HE : Hid (l.take k = l) := List.take_of_length_le (by rw [Hq.out]; exact Nat.le_refl _)
      rw [HE.out] at HM
      go_wp2
      go_ret
      exact ⟨_, l, rfl, HM.out.sub _ [1] (by decide) rfl, HR.out, HMm.out, HDl.out⟩
structure XIdsPost (w : World) (X : List Wr) (G : List Wd) (key : ByteArray) (e : Ending) (w' : World) : Prop where
  ex : ∃ D v, (∀ x, x ∈ D ↔ x ∈ X ∧ x.u ∉ G) ∧ e = .returned v ∧ M (fun _ => False) w w' [ids v (IdL.setL (idsK D key))]
set_option maxRecDepth 100000 in
set_option maxHeartbeats 16000000 in
theorem xmids_any (w : World) (b : Nat) (lv gv : Value) (X : List Wr) (G : List Wd) (h : MxAt w b lv gv X G) (hX : X.length ≤ 1000) (hG : G.length ≤ 1000) (key : ByteArray) :
    Calls Try.prog 34 #[.pointer (some ⟨b, 0, none⟩), .string key] w (XIdsPost w X G key) := by
  have HSo : Hid (Calls Try.prog 66 #[.pointer (some ⟨b, 0, none⟩)] w (LivPost w X G)) := live_any w b lv gv X G h hX hG
  have HXl : Hid (X.length ≤ 1000) := hX
  clear h hX hG
  go_enter Try.func34, Try.ntmps34
  go_wp2_with (first | (go_at_call 66; refine HSo.out.mono ?_; rintro e w1 ⟨v1, l, rfl, m1, _, hm1, hl1⟩; obtain ⟨la, lc, el, _⟩ := (show St.Own 51 34 we w1 v1 l from m1.get 0 rfl).any; subst el; have HM : Hid (M (fun _ => False) w w1 [rX (.slice la l.length lc) l]) := m1; have HMm : Hid (∀ x, x ∈ l ↔ x ∈ X ∧ x.u ∉ G) := hm1; have HDl : Hid (l.length ≤ X.length) := hl1; clear m1 hm1 hl1; obtain ⟨q, hq⟩ : ∃ q, l.length = q := ⟨_, rfl⟩; have Hq : Hid (l.length = q) := hq; rw [hq] at HM ⊢; clear hq))
  have HM : Hid (M (fun _ => False) w w1 [rX (.slice la q lc) l, ids (.slice none 0 0) []]) := HM.out.nilI
  have hq1 : q ≤ 1000 := by have := HXl.out; have := Hq.out; have := HDl.out; omega
  go_loopw [5, 7] (fun s5 s7 wr => ∃ (k : Nat) (v : Value), k ≤ q ∧ s5 = v ∧ s7 = .int .i64 k ∧ M (fun _ => False) w wr [rX (.slice la q lc) l, ids v (IdL.setL (idsK (l.take k) key))]) (fun _ s7 _ => q - (intOf s7).toNat)
  case atStart => exact ⟨0, _, Nat.zero_le _, rfl, by go_num, HM.out⟩
  case round =>
    clear HM
    obtain ⟨k, v, hk, e1, rfl, hM⟩ := hrel
    replace e1 := e1.symm
    subst e1
    have HM : Hid (M (fun _ => False) w wr [rX (.slice la q lc) l, ids v (IdL.setL (idsK (l.take k) key))]) := hM
    clear hM
    by_cases hlt : k < q
    · obtain ⟨x, hp⟩ : ∃ x, l[k]? = some x := ⟨_, List.getElem?_eq_getElem (by rw [Hq.out]; exact hlt)⟩
      obtain ⟨g0, o0, e0, _, hr0⟩ := (own_sl (show St.Own 51 34 we wr (.slice la q lc) l from HM.out.get 0 rfl)).2.lay.resolve_left (by omega)
      subst e0
      have d32 := rng_wk (hr0 k x hp)
      have RU : Hid _ := rng_wu (hr0 k x hp)
      have Hp : Hid (l[k]? = some x) := hp
      have HU : Hid (x.u.length = 32) := x.hu
      have HKl : Hid ((IdL.setL (idsK (l.take k) key)).length ≤ 100000) := by
        show _ ≤ _
        have h1 := IdL.setL_len (idsK (l.take k) key)
        have h2 := idsK_len (l.take k) key
        rw [List.length_take] at h2
        omega
      clear hr0 hp
      by_cases hkey : x.k.toList = key.toList
      · have HE : Hid (IdL.setL (idsK (l.take (k + 1)) key) = IdL.withL (IdL.setL (idsK (l.take k) key)) x.u) := by
          show _ = _
          rw [idsK_in Hp.out hkey, IdL.setL_snoc]
        go_wp2_with (first | ((with_reducible refine at_load 35 ?_); refine Ids.wl_load rfl rfl rfl HU.out RU.out ?_; simp only [Act.put, List.setIfInBounds_toArray, List.set_cons_zero, List.set_cons_succ]) | (go_at_call 55; refine (xwith_own wr v _ (HM.out.get 1 rfl) HKl.out x.u HU.out).mono ?_; rintro e w2 ⟨v2, rfl, h1, h2, h3⟩; have HM : Hid _ := HM.out.upd 1 rfl h2 (fun _ h => h.elim) (y := ids v2 (IdL.withL (IdL.setL (idsK (l.take k) key)) x.u)) h1 (fun j hj => by rcases h3 with rfl | h3; exact .inl hj; exact .inr ⟨h3 j hj, h1.lt hj⟩); clear h1 h2 h3))
        go_roundw
        case rel => exact ⟨k + 1, _, by omega, rfl, by go_num, by rw [HE.out]; exact HM.out⟩
        case measure => simp [intOf]; omega
      · have HE : Hid _ := idsK_out Hp.out hkey
        have hkb : (x.k.toList == key.toList) = false := by simpa using hkey
        have hcmp : ∀ w, Sem.run Try.prog (binOp .eql 9 (.string x.k) (.string key)) w = .ok (.bool false) w := fun w => by
          rw [← hkb]
          rfl
        go_wp2
        go_roundw
        case rel => exact ⟨k + 1, _, by omega, rfl, by go_num, by rw [HE.out]; exact HM.out⟩
        case measure => simp [intOf]; omega
    · obtain rfl : k = q := by omega
      have HE : Hid (l.take k = l) := List.take_of_length_le (by rw [Hq.out]; exact Nat.le_refl _)
      rw [HE.out] at HM
      go_wp2
      go_ret
      exact ⟨l, _, HMm.out, rfl, HM.out.sub _ [1] (by decide) rfl⟩
end Mu
end Go.Proofs.Ytgpimeobkacniaa


namespace Go.Proofs.Ytgpimeobkacniaa
open Go.RowKit
namespace Mu
open Oct Ids Mp
open Mem (M It blk ids rows)
open OctRd (be_len)
open Sq (at_load at_alloc at_store own_sl own_idat flat_takeW)
set_option maxRecDepth 100000 in
theorem rn1 (w : World) (n : Int) (hn0 : 0 ≤ n) (hn : n < 256) (v : ByteArray) (hv : (⟨(be 1 n).toArray⟩ : ByteArray) = v) : Calls Try.prog 72 #[.int .i64 n, .int .i64 1] w fun e w' => e = .returned (.string v) ∧ Keep (fun _ => False) w w' := by
  have HV : Hid _ := hv
  clear hv
  go_enter Try.func72, Try.ntmps72
  go_wp2_with (first | (go_at_call 106; refine (Ref.num1 _ n hn0 hn).mono ?_; rw [HV.out]; rintro e w1 ⟨rfl, k1⟩; have HK : Hid _ := k1; clear k1))
  go_ret
  exact ⟨rfl, HK.out⟩
set_option maxRecDepth 100000 in
theorem rn2 (w : World) (n : Int) (hn0 : 0 ≤ n) (hn : n < 65536) (v : ByteArray) (hv : (⟨(be 2 n).toArray⟩ : ByteArray) = v) : Calls Try.prog 72 #[.int .i64 n, .int .i64 2] w fun e w' => e = .returned (.string v) ∧ Keep (fun _ => False) w w' := by
  have HV : Hid _ := hv
  clear hv
  go_enter Try.func72, Try.ntmps72
  go_wp2_with (first | (go_at_call 106; refine (Ref.num2 _ n hn0 hn).mono ?_; rw [HV.out]; rintro e w1 ⟨rfl, k1⟩; have HK : Hid _ := k1; clear k1))
  go_ret
  exact ⟨rfl, HK.out⟩
set_option maxRecDepth 100000 in
theorem rn4 (w : World) (n : Int) (hn0 : 0 ≤ n) (hn : n < 4294967296) (v : ByteArray) (hv : (⟨(be 4 n).toArray⟩ : ByteArray) = v) : Calls Try.prog 72 #[.int .i64 n, .int .i64 4] w fun e w' => e = .returned (.string v) ∧ Keep (fun _ => False) w w' := by
  have HV : Hid _ := hv
  clear hv
  go_enter Try.func72, Try.ntmps72
  go_wp2_with (first | (go_at_call 106; refine (Ref.num4 _ n hn0 hn).mono ?_; rw [HV.out]; rintro e w1 ⟨rfl, k1⟩; have HK : Hid _ := k1; clear k1))
  go_ret
  exact ⟨rfl, HK.out⟩
theorem raw_cut (c : Wd) (T : ByteArray) (h : (⟨(be 1 ((1 : Nat) : Int) ++ [c].flatten).toArray⟩ : ByteArray) = T) : T.extract 1 T.size = ⟨c.toArray⟩ := by
  subst h
  apply ByteArray.ext
  simp [be]
  show List.take ((1 :: c).toArray.size - 1) c = c
  simp
set_option maxRecDepth 100000 in
set_option maxHeartbeats 1000000 in
theorem wraw_any (w : World) (c : List UInt8) (hc : c.length = 32) (v : ByteArray) (hv : (⟨c.toArray⟩ : ByteArray) = v) : Calls Try.prog 73 #[idv c] w fun e w' => e = .returned (.string v) ∧ Keep (fun _ => False) w w' := by
  subst hv
  have HU : Hid (c.length = 32) := hc
  have HM : Hid (M (fun _ => False) w _ [blk w.heap.size (.cells (c.map bv).toArray 35)]) := (M.start (fun _ => False) w).alloc (.cells (c.map bv).toArray 35) rfl
  obtain ⟨T, hT⟩ : ∃ T : ByteArray, (⟨(be 1 ((1 : Nat) : Int) ++ [c].flatten).toArray⟩ : ByteArray) = T := ⟨_, rfl⟩
  have HT : Hid ((⟨(be 1 ((1 : Nat) : Int) ++ [c].flatten).toArray⟩ : ByteArray) = T) := hT
  have hTs : T.size = 33 := by rw [← hT, Byt.arr_size]; simp [be_len, hc]
  have HX : Hid _ := raw_cut c T hT
  clear hc hT
  go_enter Try.func73, Try.ntmps73
  go_wp2_with (first | ((with_reducible refine at_load 35 ?_); refine Ids.wl_load rfl rfl rfl HU.out (HM.out.range 0 rfl) ?_; simp only [Act.put, List.setIfInBounds_toArray, List.set_cons_zero, List.set_cons_succ]) | (refine Ids.wl_build rfl rfl HU.out rfl ?_; have HM : Hid _ := HM.out.alloc (.cells (c.map bv).toArray 35) (b := w.heap.size + 1) (by simp); simp only [Act.put, List.setIfInBounds_toArray, List.set_cons_zero, List.set_cons_succ]) | (go_at_call 107; refine (ids_any _ _ 1 1 [c] (at_i1 HU.out (HM.out.get 1 rfl)) (by omega)).mono ?_; rintro e w1 ⟨rfl, k1⟩; rw [HT.out]; have HM : Hid _ := HM.out.calm k1; clear k1))
  go_ret
  exact ⟨by first | rw [← HX.out]; rfl | (rw [← HX.out, hTs]; rfl), HM.out.keep⟩
theorem bszQ (l : List UInt8) (k : Nat) (h : l.length = k) (B : ByteArray) (hB : (⟨l.toArray⟩ : ByteArray) = B) : B.size = k := by rw [← hB, Byt.arr_size, h]
theorem blsQ (l : List UInt8) (B : ByteArray) (hB : (⟨l.toArray⟩ : ByteArray) = B) : B.data.toList = l := by rw [← hB]
theorem obQ {S : ByteArray} {x : List UInt8} (h : S.data.toList = x) : S = ⟨x.toArray⟩ := by rw [← h]
theorem szQ {S : ByteArray} {x : List UInt8} (h : S.data.toList = x) : S.size = x.length := by rw [← h]; rfl
def weA (b o : Nat) (d : Wr) (w : World) : Prop := w.rangeAt b o (we d)
/-- What the document's Put comes to. -/
structure XPutPost (w : World) (X : List Wr) (G : List Wd) (e : Ending) (w' : World) : Prop where
  ex : ∃ D, D.Pairwise ltW ∧ (∀ x, x ∈ D ↔ x ∈ X ∧ x.u ∉ G) ∧ e = .returned (.string ⟨(putW D (IdL.setL G)).toArray⟩) ∧ Keep (fun _ => False) w w'
set_option maxRecDepth 100000 in
set_option maxHeartbeats 16000000 in
theorem xput_any (w : World) (b : Nat) (lv gv : Value) (X : List Wr) (G : List Wd) (h : MxAt w b lv gv X G) (hX : X.length ≤ 1000) (hG : G.length ≤ 1000) (hv : Small X) :
    Calls Try.prog 36 #[.pointer (some ⟨b, 0, none⟩)] w (XPutPost w X G) := by
  have HLv : Hid (Calls Try.prog 66 #[.pointer (some ⟨b, 0, none⟩)] w (LivPost w X G)) := live_any w b lv gv X G h hX hG
  obtain ⟨ga, gc, e1, hgat, _⟩ := h.gone.at
  subst e1
  obtain ⟨g, hg⟩ : ∃ g, G.length = g := ⟨_, rfl⟩
  rw [hg] at h hgat hG
  have HXs : Hid (MxAt w b lv (.slice ga g gc) X G) := h
  have HGat : Hid (At w ga g G) := hgat
  have HSm : Hid (Small X) := hv
  have HXl : Hid (X.length ≤ 1000) := hX
  clear h hgat hg hv hX
  go_enter Try.func36, Try.ntmps36
  go_wp2_with (first | (go_at_call 66; refine HLv.out.mono ?_; rintro e w1 ⟨v1, D, rfl, m1, hp1, hm1, hl1⟩; obtain ⟨la, lc, el, _⟩ := (show St.Own 51 34 we w1 v1 D from m1.get 0 rfl).any; subst el; have HM : Hid (M (fun _ => False) w w1 [rX (.slice la D.length lc) D]) := m1; have HPw : Hid (D.Pairwise ltW) := hp1; have HDm : Hid (∀ x, x ∈ D ↔ x ∈ X ∧ x.u ∉ G) := hm1; have HDl : Hid (D.length ≤ X.length) := hl1; clear m1 hp1 hm1 hl1; obtain ⟨n, hn⟩ : ∃ n, D.length = n := ⟨_, rfl⟩; have Hn : Hid (D.length = n) := hn; rw [hn] at HM ⊢; clear hn; have hn1 : n ≤ 1000 := (by have := HXl.out; have := Hn.out; have := HDl.out; omega); obtain ⟨B0, hB0⟩ : ∃ B : ByteArray, (⟨(be 4 n).toArray⟩ : ByteArray) = B := ⟨_, rfl⟩; have HB0 : Hid ((⟨(be 4 n).toArray⟩ : ByteArray) = B0) := hB0; clear hB0) | (go_at_call 72; refine (rn4 _ n (by omega) (by omega) B0 HB0.out).mono ?_; rintro e w2 ⟨rfl, k2⟩; have HM : Hid _ := HM.out.calm k2; clear k2))
  have HOk : Hid (Small D) := fun x hx => HSm.out x ((HDm.out x).1 hx).1
  go_loopw [4, 5] (fun s4 s5 wr => ∃ (k : Nat) (S : ByteArray), k ≤ n ∧ s4 = .string S ∧ s5 = .int .i64 k ∧ S.data.toList = be 4 n ++ (D.take k).flatMap wrB ∧ M (fun _ => False) w wr [rX (.slice la n lc) D]) (fun _ s5 _ => n - (intOf s5).toNat)
  case atStart => exact ⟨0, B0, Nat.zero_le _, rfl, by go_num, by rw [blsQ _ B0 HB0.out]; simp, HM.out⟩
  case round =>
    clear HM
    obtain ⟨k, S, hk, rfl, rfl, hS, hM⟩ := hrel
    have HM : Hid (M (fun _ => False) w wr [rX (.slice la n lc) D]) := hM
    have HS : Hid (S.data.toList = be 4 n ++ (D.take k).flatMap wrB) := hS
    have hsz : S.size ≤ 100000 := by
      rw [szQ hS, List.length_append, be_len]
      have h1 := wrB_len (D.take k) (fun e he => HOk.out e (List.mem_of_mem_take he))
      have h2 := List.length_take_le k D
      omega
    clear hS hM
    by_cases hlt : k < n
    · obtain ⟨d, hd⟩ : ∃ d, D[k]? = some d := ⟨_, List.getElem?_eq_getElem (by rw [Hn.out]; exact hlt)⟩
      have Hd : Hid (D[k]? = some d) := hd
      obtain ⟨g0, o0, e0, _, _⟩ := (own_sl (show St.Own 51 34 we wr (.slice la n lc) D from HM.out.get 0 rfl)).2.lay.resolve_left (by omega)
      subst e0
      have HRg : Hid (∀ w', M (fun _ => False) w w' [rX (.slice (some ⟨g0, o0, none⟩) n lc) D] → weA g0 (o0 + k * 34) d w') := fun w' h => (own_sl (show St.Own 51 34 we w' (.slice (some ⟨g0, o0, none⟩) n lc) D from h.get 0 rfl)).2.lay.resolve_left (by omega) |> fun ⟨_, _, e, _, hr⟩ => (by cases e; exact hr k d Hd.out)
      have HU : Hid (d.u.length = 32) := d.hu
      have HE : Hid ((D.take (k + 1)).flatMap wrB = (D.take k).flatMap wrB ++ wrB d) := putW_take hd
      obtain ⟨hk16, hv16⟩ := HOk.out d (List.mem_of_getElem? hd)
      obtain ⟨BU, hBU⟩ : ∃ B : ByteArray, (⟨d.u.toArray⟩ : ByteArray) = B := ⟨_, rfl⟩
      have zBU : BU.size = 32 := bszQ _ _ d.hu BU hBU
      obtain ⟨BK, hBK⟩ : ∃ B : ByteArray, (⟨(be 1 d.k.size).toArray⟩ : ByteArray) = B := ⟨_, rfl⟩
      have zBK : BK.size = 1 := bszQ _ _ (be_len _ _) BK hBK
      obtain ⟨BL, hBL⟩ : ∃ B : ByteArray, (⟨(be 1 d.v.size).toArray⟩ : ByteArray) = B := ⟨_, rfl⟩
      have zBL : BL.size = 1 := bszQ _ _ (be_len _ _) BL hBL
      have HRes : Hid ((S ++ BU ++ BK ++ d.k ++ BL ++ d.v : ByteArray).data.toList = be 4 n ++ (D.take (k + 1)).flatMap wrB) := by
        show _ = _
        rw [HE.out, show wrB d = d.u ++ be 1 d.k.size ++ d.k.data.toList ++ be 1 d.v.size ++ d.v.data.toList from rfl]
        simp only [ByteArray.data_append, Array.toList_append, blsQ _ BU hBU, blsQ _ BK hBK, blsQ _ BL hBL, HS.out, List.append_assoc]
      have s1 : ¬ 9223372036854775807 < S.size + BU.size := by omega
      have s2 : ¬ 9223372036854775807 < S.size + BU.size + BK.size := by omega
      have s3 : ¬ 9223372036854775807 < S.size + BU.size + BK.size + d.k.size := by omega
      have s4 : ¬ 9223372036854775807 < S.size + BU.size + BK.size + d.k.size + BL.size := by omega
      have s5 : ¬ 9223372036854775807 < S.size + BU.size + BK.size + d.k.size + BL.size + d.v.size := by omega
      have HU1 : Hid _ := hBU
      have HK1 : Hid _ := hBK
      have HL1 : Hid _ := hBL
      clear zBU zBK zBL hBU hBK hBL hd
      go_wp2
      refine Txt.wp_region_text (weA g0 (o0 + k * 34) d) [0, 0, 0, 0, 0, 1, 4, 0, 0, 0, 0, 0, 2, 0, 4, 0, 0, 0, 0, 0, 2, 0, 0, 0, 0, 0, 2, 0, 4, 0, 0, 0, 0, 0, 2, 0, 0] (by kernel_rfl) (by kernel_rfl) (HRg.out _ HM.out.drew) ?_
      have HM : Hid _ := HM.out.drew
      (repeat (first | (refine Txt.tl_pure (v := ?_) (by rfl) ?_ ?_; rotate_left; (focus (intro _; go_simp; try with_reducible rfl)); simp only [Act.put, List.setIfInBounds_toArray, List.set_cons_zero, List.set_cons_succ]) | (refine Txt.tl_rowN (n := 32) (ty := 35) (by rfl) (by rfl) (by rfl) (rng_wu (HRg.out _ HM.out)) (by kernel_rfl) (by rw [List.length_map]; exact HU.out) ?_; simp only [Act.put, List.setIfInBounds_toArray, List.set_cons_zero, List.set_cons_succ]) | (refine Txt.tl_loadS (v := .string d.k) (ty := 9) (by rfl) (by rfl) (by rfl) (by kernel_rfl) (fun _ h => rng_wk h) ?_; simp only [Act.put, List.setIfInBounds_toArray, List.set_cons_zero, List.set_cons_succ]) | (refine Txt.tl_loadS (v := .string d.v) (ty := 9) (by rfl) (by rfl) (by rfl) (by kernel_rfl) (fun _ h => rng_wv h) ?_; simp only [Act.put, List.setIfInBounds_toArray, List.set_cons_zero, List.set_cons_succ])))
      refine Txt.tl_call Try.func73 (by kernel_rfl) (by kernel_rfl) (by rfl) (by rfl) (by rfl) (wraw_any _ d.u d.hu BU HU1.out) ?_
      rintro e w6 ⟨rfl, h1⟩
      have HM : Hid _ := HM.out.calm h1
      clear h1
      refine ⟨_, rfl, HRg.out _ HM.out, ?_⟩
      simp only [Act.put, List.setIfInBounds_toArray, List.set_cons_zero, List.set_cons_succ]
      (repeat (first | (refine Txt.tl_pure (v := ?_) (by rfl) ?_ ?_; rotate_left; (focus (intro _; go_simp; try with_reducible rfl)); simp only [Act.put, List.setIfInBounds_toArray, List.set_cons_zero, List.set_cons_succ]) | (refine Txt.tl_rowN (n := 32) (ty := 35) (by rfl) (by rfl) (by rfl) (rng_wu (HRg.out _ HM.out)) (by kernel_rfl) (by rw [List.length_map]; exact HU.out) ?_; simp only [Act.put, List.setIfInBounds_toArray, List.set_cons_zero, List.set_cons_succ]) | (refine Txt.tl_loadS (v := .string d.k) (ty := 9) (by rfl) (by rfl) (by rfl) (by kernel_rfl) (fun _ h => rng_wk h) ?_; simp only [Act.put, List.setIfInBounds_toArray, List.set_cons_zero, List.set_cons_succ]) | (refine Txt.tl_loadS (v := .string d.v) (ty := 9) (by rfl) (by rfl) (by rfl) (by kernel_rfl) (fun _ h => rng_wv h) ?_; simp only [Act.put, List.setIfInBounds_toArray, List.set_cons_zero, List.set_cons_succ])))
      refine Txt.tl_call Try.func72 (by kernel_rfl) (by kernel_rfl) (by rfl) (by rfl) (by rfl) (rn1 _ d.k.size (by omega) (by omega) BK HK1.out) ?_
      rintro e w6 ⟨rfl, h1⟩
      have HM : Hid _ := HM.out.calm h1
      clear h1
      refine ⟨_, rfl, HRg.out _ HM.out, ?_⟩
      simp only [Act.put, List.setIfInBounds_toArray, List.set_cons_zero, List.set_cons_succ]
      (repeat (first | (refine Txt.tl_pure (v := ?_) (by rfl) ?_ ?_; rotate_left; (focus (intro _; go_simp; try with_reducible rfl)); simp only [Act.put, List.setIfInBounds_toArray, List.set_cons_zero, List.set_cons_succ]) | (refine Txt.tl_rowN (n := 32) (ty := 35) (by rfl) (by rfl) (by rfl) (rng_wu (HRg.out _ HM.out)) (by kernel_rfl) (by rw [List.length_map]; exact HU.out) ?_; simp only [Act.put, List.setIfInBounds_toArray, List.set_cons_zero, List.set_cons_succ]) | (refine Txt.tl_loadS (v := .string d.k) (ty := 9) (by rfl) (by rfl) (by rfl) (by kernel_rfl) (fun _ h => rng_wk h) ?_; simp only [Act.put, List.setIfInBounds_toArray, List.set_cons_zero, List.set_cons_succ]) | (refine Txt.tl_loadS (v := .string d.v) (ty := 9) (by rfl) (by rfl) (by rfl) (by kernel_rfl) (fun _ h => rng_wv h) ?_; simp only [Act.put, List.setIfInBounds_toArray, List.set_cons_zero, List.set_cons_succ])))
      refine Txt.tl_call Try.func72 (by kernel_rfl) (by kernel_rfl) (by rfl) (by rfl) (by rfl) (rn1 _ d.v.size (by omega) (by omega) BL HL1.out) ?_
      rintro e w6 ⟨rfl, h1⟩
      have HM : Hid _ := HM.out.calm h1
      clear h1
      refine ⟨_, rfl, HRg.out _ HM.out, ?_⟩
      simp only [Act.put, List.setIfInBounds_toArray, List.set_cons_zero, List.set_cons_succ]
      (repeat (first | (refine Txt.tl_pure (v := ?_) (by rfl) ?_ ?_; rotate_left; (focus (intro _; go_simp; try with_reducible rfl)); simp only [Act.put, List.setIfInBounds_toArray, List.set_cons_zero, List.set_cons_succ]) | (refine Txt.tl_rowN (n := 32) (ty := 35) (by rfl) (by rfl) (by rfl) (rng_wu (HRg.out _ HM.out)) (by kernel_rfl) (by rw [List.length_map]; exact HU.out) ?_; simp only [Act.put, List.setIfInBounds_toArray, List.set_cons_zero, List.set_cons_succ]) | (refine Txt.tl_loadS (v := .string d.k) (ty := 9) (by rfl) (by rfl) (by rfl) (by kernel_rfl) (fun _ h => rng_wk h) ?_; simp only [Act.put, List.setIfInBounds_toArray, List.set_cons_zero, List.set_cons_succ]) | (refine Txt.tl_loadS (v := .string d.v) (ty := 9) (by rfl) (by rfl) (by rfl) (by kernel_rfl) (fun _ h => rng_wv h) ?_; simp only [Act.put, List.setIfInBounds_toArray, List.set_cons_zero, List.set_cons_succ])))
      refine Txt.tl_nil ?_
      go_wp2
      go_roundw
      case rel => exact ⟨k + 1, _, by omega, rfl, by go_num, HRes.out, HM.out⟩
      case measure => simp [intOf]; omega
    · obtain rfl : n = k := by omega
      obtain ⟨cs, hcs⟩ : ∃ cs, be 4 n ++ D.flatMap wrB = cs := ⟨_, rfl⟩
      have HCs : Hid (be 4 n ++ D.flatMap wrB = cs) := hcs
      have HS : Hid (S.data.toList = cs) := by show _ = _; rw [HS.out, List.take_of_length_le (by rw [Hn.out]; exact Nat.le_refl _), hcs]
      have hcl : cs.length ≤ 100000 := by rw [← szQ HS.out]; exact hsz
      obtain ⟨O, hO⟩ : ∃ O, IdL.setL G = O := ⟨_, rfl⟩
      have HO : Hid (IdL.setL G = O) := hO
      have hOl : O.length ≤ g := by rw [← hO]; have h1 := IdL.setL_len G; rw [HGat.out.len] at h1; exact h1
      have HSt : Hid (∀ w1, At w1 ga g G → Calls Try.prog 19 #[.slice ga g gc] w1 fun e w' => ∃ v, e = .returned v ∧ New w1 w' v O) := fun w1 h1 => by
        have := xset_any w1 ga g gc G h1 (by omega)
        rwa [hO] at this
      have c1 := (HXs.out.calm HM.out.keep).cells.2
      obtain ⟨q, hq⟩ : ∃ q, O.length = q := ⟨_, rfl⟩
      have Hq : Hid (O.length = q) := hq
      have hq1 : q ≤ 1000 := by omega
      obtain ⟨BG, hBG⟩ : ∃ B : ByteArray, (⟨(be 4 q).toArray⟩ : ByteArray) = B := ⟨_, rfl⟩
      have zBG : BG.size = 4 := bszQ _ _ (be_len _ _) BG hBG
      have s1 : ¬ 9223372036854775807 < S.size + BG.size := by omega
      have HG1 : Hid _ := hBG
      clear hcs zBG hBG hO hq hOl
      go_wp2_with (first | (go_at_call 19; refine (HSt.out _ (HGat.out.calm HM.out.keep)).mono ?_; rintro e w3 ⟨v3, rfl, n3⟩; obtain ⟨oa, oc, e3, _⟩ := n3.1.at; have HM : Hid (M (fun _ => False) w w3 [rX (.slice la n lc) D, ids v3 O]) := HM.out.add (x := ids v3 O) n3.2.1 n3.1 (fun k hk => ⟨n3.2.2 k hk, n3.1.lt hk⟩); subst e3; clear n3; rw [Hq.out] at HM ⊢) | (go_at_call 72; refine (rn4 _ q (by omega) (by omega) BG HG1.out).mono ?_; rintro e w4 ⟨rfl, k4⟩; have HM : Hid _ := HM.out.calm k4; clear k4))
      have HS2 : Hid ((S ++ BG : ByteArray).data.toList = cs ++ be 4 q) := by show _ = _; simp only [ByteArray.data_append, Array.toList_append, blsQ _ BG HG1.out, HS.out]
      go_loopw [4, 7] (fun s4 s7 wr => ∃ (k : Nat) (T : ByteArray), k ≤ q ∧ s4 = .string T ∧ s7 = .int .i64 k ∧ T.data.toList = cs ++ be 4 q ++ (O.take k).flatten ∧ M (fun _ => False) w wr [rX (.slice la n lc) D, ids (.slice oa q oc) O]) (fun _ s7 _ => q - (intOf s7).toNat)
      case atStart => exact ⟨0, _, Nat.zero_le _, rfl, by go_num, by rw [HS2.out]; simp, HM.out⟩
      case round =>
        clear HM s1
        obtain ⟨k, T, hk, rfl, rfl, hT, hM⟩ := hrel
        have HM : Hid (M (fun _ => False) w wr [rX (.slice la n lc) D, ids (.slice oa q oc) O]) := hM
        have HT : Hid (T.data.toList = cs ++ be 4 q ++ (O.take k).flatten) := hT
        by_cases hlt : k < q
        · obtain ⟨u, hu⟩ : ∃ u, O[k]? = some u := ⟨_, List.getElem?_eq_getElem (by rw [Hq.out]; exact hlt)⟩
          have hat : At wr oa q O := own_idat (c := oc) (HM.out.get 1 rfl)
          obtain ⟨g0, o0, e0, _, hr0⟩ := hat.lay.resolve_left (by omega)
          subst e0
          have hul := hat.size u (List.mem_of_getElem? hu)
          have R1 : Hid (wr.rangeAt g0 (o0 + k * 32) (u.map bv)) := hr0 k u hu
          have HU : Hid (u.length = 32) := hul
          have HE : Hid ((O.take (k + 1)).flatten = (O.take k).flatten ++ u) := flat_takeW hu
          have hTs : T.size ≤ 1000000 := by
            rw [szQ hT, List.length_append, List.length_append, be_len, Ids.flat_take O k hat.size (by rw [Hq.out]; omega)]
            omega
          obtain ⟨BU, hBU⟩ : ∃ B : ByteArray, (⟨u.toArray⟩ : ByteArray) = B := ⟨_, rfl⟩
          have zBU : BU.size = 32 := bszQ _ _ hul BU hBU
          have s1 : ¬ 9223372036854775807 < T.size + BU.size := by omega
          have HU1 : Hid _ := hBU
          have HRes : Hid ((T ++ BU : ByteArray).data.toList = cs ++ be 4 q ++ (O.take (k + 1)).flatten) := by
            show _ = _
            rw [HE.out]
            simp only [ByteArray.data_append, Array.toList_append, blsQ _ BU hBU, HT.out, List.append_assoc]
          clear zBU hBU hTs hr0 hu hat hT hM hul
          go_wp2_with (first | ((with_reducible refine at_load 35 ?_); refine Ids.wl_load rfl rfl rfl HU.out R1.out ?_; simp only [Act.put, List.setIfInBounds_toArray, List.set_cons_zero, List.set_cons_succ]) | (go_at_call 73; refine (wraw_any _ u HU.out BU HU1.out).mono ?_; rintro e w5 ⟨rfl, k5⟩; have HM : Hid _ := HM.out.calm k5; clear k5))
          go_roundw
          case rel => exact ⟨k + 1, _, by omega, rfl, by go_num, HRes.out, HM.out⟩
          case measure => simp [intOf]; omega
        · obtain rfl : q = k := by omega
          have HP : Hid (T = ⟨(putW D (IdL.setL G)).toArray⟩) := obQ (by rw [hT, List.take_of_length_le (by rw [Hq.out]; exact Nat.le_refl _)]; unfold putW; rw [Hn.out, HO.out, Hq.out, HCs.out])
          clear hT hM
          go_wp2
          go_ret
          exact ⟨D, HPw.out, HDm.out, by rw [← HP.out]; rfl, HM.out.keep⟩
end Mu
end Go.Proofs.Ytgpimeobkacniaa
