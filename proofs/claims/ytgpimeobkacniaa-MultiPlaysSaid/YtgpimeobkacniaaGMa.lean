/-
  Chapter 24: writings, in memory and as keys of maps. Chapter 24: the program's map of writings in memory; New, none, sweep. Chapter 24: sweep. Chapter 24: Set. Chapter 24: gone; writing.order; sorted. Chapter 24: cmp.Compare of strings, cmp.Or, writing.order.
-/
import Derived.Test.YtgpimeobkacniaaGSqE
import Derived.Test.YtgpimeobkacniaaMuL
import Derived.Test.YtgpimeobkacniaaSq8
import Derived.Test.YtgpimeobkacniaaSq5
set_option linter.unusedVariables false
set_option linter.unusedSimpArgs false

namespace Go.Proofs.Ytgpimeobkacniaa
open Go.RowKit
namespace Mu
open Oct Ids Mp
open Mem (M It blk ids rows)
instance : DecidableEq Wr := fun x y => if h : x.u = y.u ∧ x.k.toList = y.k.toList ∧ x.v.toList = y.v.toList then isTrue (wr_eq h.1 (toList_inj h.2.1) (toList_inj h.2.2)) else isFalse fun e => h (by subst e; exact ⟨rfl, rfl, rfl⟩)
/-- A writing's 34 cells. -/
def we (x : Wr) : List Value := x.u.map bv ++ [.string x.k, .string x.v]
theorem we_len (x : Wr) : (we x).length = 34 := by unfold we; simp [x.hu]
theorem encW : St.Enc 34 we := by
  refine ⟨we_len, fun x v hv => ?_⟩
  unfold we at hv
  simp only [List.mem_append, List.mem_cons, List.not_mem_nil, or_false] at hv
  rcases hv with hv | rfl | rfl
  · obtain ⟨y, _, rfl⟩ := List.mem_map.1 hv
    rfl
  · rfl
  · rfl
abbrev wz : Array Value := ((List.replicate 32 (0 : UInt8)).map bv ++ [Value.string ByteArray.empty, Value.string ByteArray.empty]).toArray
theorem tyW : St.Ty 105 34 wz := ⟨⟨_, Try.underlying105, rfl⟩, by kernel_rfl, by kernel_rfl⟩
theorem slW : SlT Try.prog 102 105 (.agg wz) 34 64 := SlT.mk' Try.underlying102 (by kernel_rfl) rfl (by omega)
abbrev wv (x : Wr) : Value := .agg (we x).toArray
theorem part_w (x : Wr) (w : World) : (part 35 (we x).toArray 0).run Try.prog w = .ok (idv x.u) w := by
  have hu := Try.underlying35
  have hsz := info32
  have ht : (we x).take 32 = x.u.map bv := by
    unfold we
    exact List.take_left' (by rw [List.length_map, x.hu])
  cases hq : Try.prog.info? 35 with
  | none => rw [hq] at hsz; cases hsz
  | some i =>
    have hs : i.size = 32 := by rw [hq] at hsz; simpa using hsz
    simp [part, isAgg, run_underlying hu, sizeOf, typeInfo, hq, hs, ht]
theorem we_32 (x : Wr) : (we x)[32]? = some (.string x.k) := by
  unfold we
  rw [List.getElem?_append_right (by rw [List.length_map, x.hu]; exact Nat.le_refl _), List.length_map, x.hu]
  rfl
theorem we_33 (x : Wr) : (we x)[33]? = some (.string x.v) := by
  unfold we
  rw [List.getElem?_append_right (by rw [List.length_map, x.hu]; omega), List.length_map, x.hu]
  rfl
theorem strNo (w : World) : (isAgg 9).run Try.prog w = .ok false w := by simp [isAgg, run_underlying Try.underlying9]
theorem part_k (x : Wr) (w : World) : (part 9 (we x).toArray 32).run Try.prog w = .ok (.string x.k) w := by simp [part, strNo, we_32]
theorem part_v (x : Wr) (w : World) : (part 9 (we x).toArray 33).run Try.prog w = .ok (.string x.v) w := by simp [part, strNo, we_33]
def eqW (x y : Wr) : Bool := x.u == y.u && (x.k.toList == y.k.toList && x.v.toList == y.v.toList)
theorem eqW_iff (x y : Wr) : eqW x y = decide (x = y) := by
  rw [Bool.eq_iff_iff]
  unfold eqW
  simp only [Bool.and_eq_true, beq_iff_eq, decide_eq_true_eq]
  exact ⟨fun h => wr_eq h.1 (toList_inj h.2.1) (toList_inj h.2.2), fun h => by subst h; exact ⟨rfl, rfl, rfl⟩⟩
theorem equalIn_W (w : World) (x y : Wr) : (Op.equalIn 10000 105 (wv x) (wv y)).run Try.prog w = .ok (decide (x = y)) w := by
  have hS : Try.prog.underlying 105 = some (.struct (Try.prog.fieldsOf 105)) := by kernel_rfl
  have hp : Try.prog.stoodInHeld 105 = false := by kernel_rfl
  have u9 := Try.underlying9
  have p1 := part_w x
  have p2 := part_w y
  have k1 := part_k x
  have k2 := part_k y
  have v1 := part_v x
  have v2 := part_v y
  have q1 : ∀ w, (Op.equalIn 9999 35 (idv x.u) (idv y.u)).run Try.prog w = .ok (x.u == y.u) w := fun w => run_equalIn_bytes (P := Try.prog) w 9997 35 5 32 Try.underlying35 Try.underlying5 sz8 x.u y.u x.hu y.hu
  have e1 : ∀ w, (Op.equalIn 9999 9 (.string x.k) (.string y.k)).run Try.prog w = .ok (x.k.toList == y.k.toList) w := fun w => run_equalIn_string w 9998 _ x.k y.k u9
  have e2 : ∀ w, (Op.equalIn 9999 9 (.string x.v) (.string y.v)).run Try.prog w = .ok (x.v.toList == y.v.toList) w := fun w => run_equalIn_string w 9998 _ x.v y.v u9
  rw [← eqW_iff, show (10000 : Nat) = 9999 + 1 from rfl, run_equalIn_agg w 9999 105 _ _ hS hp]
  simp only [Program.fieldsOf, Try.underlying105]
  unfold eqW
  generalize (we x).toArray = X at *
  generalize (we y).toArray = Y at *
  generalize (x.k.toList == y.k.toList) = bk at *
  generalize (x.v.toList == y.v.toList) = bw at *
  generalize (x.u == y.u) = bu at *
  cases bk <;> cases bw <;> cases bu <;> simp [Op.eqFields, p1, p2, k1, k2, v1, v2, q1, e1, e2]
theorem chk_str (b : Bool) (n : Nat) (s : ByteArray) (w : World) : (Instr.checkKey b (n + 1) 9 (.string s)).run Try.prog w = .ok () w := by
  rw [Instr.checkKey]
  simp [run_underlying Try.underlying9]
theorem chk_idN (k : List UInt8) (hk : k.length = 32) (b : Bool) (n : Nat) (w : World) : (Instr.checkKey b (n + 1 + 1) 35 (idv k)).run Try.prog w = .ok () w := by
  unfold idv
  rw [Instr.checkKey]
  simp only [Sem.run_bind, run_underlying Try.underlying35, Result.andThen_ok, Std.Legacy.Range.forIn_eq_forIn_range', Std.Legacy.Range.size, Nat.sub_zero, Nat.add_one_sub_one, Nat.div_one]
  have hl : ∀ i ∈ List.range' 0 32 1, i < 32 := fun i hi => by simpa using (List.mem_range'_1.1 hi).2
  generalize List.range' 0 32 1 = l at hl ⊢
  induction l with
  | nil => simp
  | cons i l ih =>
    have hi : i < 32 := hl i (by simp)
    have px : (part 5 (k.map bv).toArray (i * 1)).run Try.prog w = .ok (bv (k.getD i 0)) w := by
      simp [part, isAgg, run_underlying Try.underlying5, List.getD, List.getElem?_eq_getElem (show i < k.length by omega)]
    have pc : (Instr.checkKey b (n + 1) 5 (bv (k.getD i 0))).run Try.prog w = .ok () w := by
      rw [Instr.checkKey]
      simp [run_underlying Try.underlying5, bv]
    simp only [List.forIn_cons, Sem.run_bind, sz8 w, px, pc, Result.andThen_ok, Sem.run_pure]
    exact ih fun j hj => hl j (by simp [hj])
theorem chk_w (x : Wr) (b : Bool) (w : World) : (Instr.checkKey b 10000 105 (wv x)).run Try.prog w = .ok () w := by
  have c1 : ∀ w, (Instr.checkKey b 9999 35 (idv x.u)).run Try.prog w = .ok () w := fun w => chk_idN x.u x.hu b 9997 w
  have c2 : ∀ s w, (Instr.checkKey b 9999 9 (.string s)).run Try.prog w = .ok () w := fun s w => chk_str b 9998 s w
  have p1 := part_w x
  have k1 := part_k x
  have v1 := part_v x
  show (Instr.checkKey b (9999 + 1) 105 (.agg (we x).toArray)).run Try.prog w = .ok () w
  rw [Instr.checkKey]
  generalize (we x).toArray = X at *
  simp [run_underlying Try.underlying105, p1, k1, v1, c1, c2]
theorem ba_self (x : ByteArray) : (x == x) = true := by
  cases x with
  | mk d =>
    show (d == d) = true
    simp
theorem bits_w (x : Wr) : Instr.sameBits 10000 (wv x) (wv x) = true := by
  rw [show (10000 : Nat) = 9999 + 1 from rfl]
  unfold Instr.sameBits
  rw [Bool.and_eq_true]
  refine ⟨by simp, ?_⟩
  rw [List.all_eq_true]
  rintro ⟨y, z⟩ hxy
  have h2 : y = z ∧ y ∈ we x := by
    obtain ⟨i, hi⟩ := List.getElem?_of_mem hxy
    rw [List.getElem?_zip_eq_some] at hi
    obtain ⟨h1, h2⟩ := hi
    rw [h1] at h2
    exact ⟨Option.some.inj h2, by simpa using List.mem_of_getElem? h1⟩
  obtain ⟨rfl, hx⟩ := h2
  unfold we at hx
  simp only [List.mem_append, List.mem_cons, List.not_mem_nil, or_false] at hx
  rcases hx with hx | rfl | rfl
  · obtain ⟨u, _, rfl⟩ := List.mem_map.1 hx
    simp [bv, Instr.sameBits]
  · simp only [Instr.sameBits]
    exact ba_self _
  · simp only [Instr.sameBits]
    exact ba_self _
abbrev okW : Wr → Prop := fun _ => True
theorem wrKey : Key Try.prog 105 okW wv := by
  refine ⟨fun x _ b w => chk_w x b w, ⟨_, Try.underlying105, .inr ⟨fun _ _ => rfl, fun x y _ _ w => ?_⟩⟩, fun x _ => bits_w x⟩
  have h := equalIn_W w x y
  unfold Op.equal Op.maxDepth
  exact h
end Mu
end Go.Proofs.Ytgpimeobkacniaa


namespace Go.Proofs.Ytgpimeobkacniaa
open Go.RowKit
namespace Mu
open Oct Ids Mp
open Mem (M It blk ids rows)
open Sq (dG addG put_dG look_G zeroB lnv map_nil okI pack own_idat wl_buildL at_load at_alloc at_store)
/-- How many a range has still to come. -/
def leftN (w : World) (r b : Nat) : Nat := match w.heap[b]?, w.heap[r]? with | some (.map es _), some (.mapIter _ _ seen _) => (leftOf es seen).size | _, _ => 0
theorem left_is {α : Type} [DecidableEq α] {ok : α → Prop} {enc : α → Value} {w : World} {r b : Nat} {D todo : List (α × Value)} {cur : Option (α × Value)} (h : Iter ok enc w r b D todo cur) : leftN w r b = todo.length := by
  obtain ⟨es, clock, seen, hb, hr, _, _, _, hl, _⟩ := h.lay
  unfold leftN
  rw [hb, hr]
  have := congrArg List.length hl
  rw [List.length_map, List.length_map, Array.length_toList] at this
  exact this
def dL (L : List Wr) : List (Wr × Value) := L.map fun x => (x, .bool true)
def addW (L : List Wr) (x : Wr) : List Wr := if x ∈ L then L else L ++ [x]
theorem fnd_dL (x : Wr) : ∀ (L : List Wr) (j : Nat), (x ∈ L → ∃ i, fnd x (dL L) j = some (i, .bool true)) ∧ (x ∉ L → fnd x (dL L) j = none)
  | [], j => ⟨fun h => (by cases h), fun _ => rfl⟩
  | y :: L, j => by
    obtain ⟨h1, h2⟩ := fnd_dL x L (j + 1)
    unfold dL at h1 h2 ⊢
    rw [List.map_cons, fnd]
    by_cases e : x = y
    · rw [if_pos e]
      exact ⟨fun _ => ⟨j, rfl⟩, fun h => absurd (by rw [e]; exact List.mem_cons_self) h⟩
    · rw [if_neg e]
      refine ⟨fun h => h1 (by rcases List.mem_cons.1 h with h | h; exact absurd h e; exact h), fun h => h2 fun h' => h (List.mem_cons_of_mem _ h')⟩
theorem put_dL (L : List Wr) (x : Wr) : put (dL L) x (.bool true) = dL (addW L x) := by
  obtain ⟨h1, h2⟩ := fnd_dL x L 0
  unfold put addW
  by_cases h : x ∈ L
  · obtain ⟨i, hi⟩ := h1 h
    rw [if_pos h]
    simp only [hi]
    obtain ⟨_, h3⟩ := fnd_some hi
    rw [Nat.sub_zero] at h3
    have := (List.getElem?_eq_some_iff.1 h3)
    obtain ⟨hlt, he⟩ := this
    rw [← he, List.set_getElem_self]
  · rw [if_neg h]
    simp only [h2 h]
    unfold dL
    rw [List.map_append]
    rfl
theorem dL_keys (L : List Wr) : (dL L).map (·.1) = L := by unfold dL; rw [List.map_map]; exact List.map_id L
abbrev mc (bl bo : Nat) : Obj := .cells #[.map (some bl), .map (some bo)] 75
abbrev mit (b bl bo : Nat) (L : List Wr) (O : List Wd) : List It := [blk b (mc bl bo), mp okW wv bl (dL L), mp okI idv bo (dG O)]
def mfoot (b bl bo : Nat) (k : Nat) : Prop := k = b ∨ k = bl ∨ k = bo
/-- What a map of writings is, as it lies. -/
structure MuAt (w : World) (b bl bo : Nat) (L : List Wr) (O : List Wd) : Prop where
  all : M (mfoot b bl bo) w w (mit b bl bo L O)
theorem mfoot_of {b bl bo : Nat} {L : List Wr} {O : List Wd} {i : Nat} {x : It} (hi : (mit b bl bo L O)[i]? = some x) {k : Nat} (hk : x.foot k) : mfoot b bl bo k := by
  match i, hi with
  | 0, hi => cases hi; exact .inl hk
  | 1, hi => cases hi; exact .inr (.inl hk)
  | 2, hi => cases hi; exact .inr (.inr hk)
theorem mfoot_to {b bl bo : Nat} {L : List Wr} {O : List Wd} {k : Nat} (hk : mfoot b bl bo k) : ∃ (i : Nat) (y : It), (mit b bl bo L O)[i]? = some y ∧ y.foot k := by
  rcases hk with hk | hk | hk
  · exact ⟨0, _, rfl, hk⟩
  · exact ⟨1, _, rfl, hk⟩
  · exact ⟨2, _, rfl, hk⟩
theorem mkMu {F : Nat → Prop} {w0 w : World} {b bl bo : Nat} {L : List Wr} {O : List Wd} (h : M F w0 w (mit b bl bo L O)) : MuAt w b bl bo L O :=
  ⟨⟨h.all, h.dis, fun i x hi k hk => ⟨.inr (mfoot_of hi hk), (h.rng i x hi k hk).2⟩, Keep.refl _ _⟩⟩
/-- A map of writings as one thing among others. -/
def muI (b bl bo : Nat) (L : List Wr) (O : List Wd) : It := ⟨mfoot b bl bo, fun w => MuAt w b bl bo L O, fun w w' S h k n =>
  ⟨⟨fun i x hi => x.stable w w' S (h.all.all i x hi) k (fun j hj => n j (mfoot_of hi hj)), h.all.dis, fun i x hi j hj => ⟨.inr (mfoot_of hi hj), Nat.lt_of_lt_of_le (h.all.rng i x hi j hj).2 k.size⟩, Keep.refl _ _⟩⟩⟩
section
variable {w w' : World} {b bl bo : Nat} {L : List Wr} {O : List Wd}
theorem MuAt.calm (h : MuAt w b bl bo L O) (k : Keep (fun _ => False) w w') : MuAt w' b bl bo L O := (muI b bl bo L O).stable w w' _ h k (fun _ _ h => h)
theorem MuAt.cells (h : MuAt w b bl bo L O) : w.cell? ⟨b, 0, none⟩ = some (.map (some bl)) ∧ w.cell? ⟨b, 1, none⟩ = some (.map (some bo)) :=
  ⟨h.all.cell 0 rfl 0 rfl, h.all.cell 0 rfl 1 rfl⟩
end
/-- What a call makes of it. -/
structure MTo (w w' : World) (b bl bo : Nat) (L' : List Wr) (O' : List Wd) : Prop where
  mu : MuAt w' b bl bo L' O'
  keep : Keep (mfoot b bl bo) w w'
theorem MTo.of {w w' : World} {b bl bo : Nat} {L' : List Wr} {O' : List Wd} (h : M (mfoot b bl bo) w w' (mit b bl bo L' O')) : MTo w w' b bl bo L' O' := ⟨mkMu h, h.keep⟩
theorem M.mto {F : Nat → Prop} {w0 w w' : World} {it : List It} (h : M F w0 w it) (i : Nat) {b bl bo : Nat} {L L' : List Wr} {O O' : List Wd} (hi : it[i]? = some (muI b bl bo L O)) (t : MTo w w' b bl bo L' O') : M F w0 w' (it.set i (muI b bl bo L' O')) :=
  h.upd i hi t.keep (fun _ h => h) (y := muI b bl bo L' O') t.mu (fun _ hk => .inl hk)
set_option maxRecDepth 100000 in
theorem mnone (w : World) (b bl bo : Nat) (L : List Wr) (O : List Wd) (h : MuAt w b bl bo L O) : Calls Try.prog 58 #[.pointer (some ⟨b, 0, none⟩)] w fun e w' => e = .returned (.bool false) ∧ w' = w := by
  obtain ⟨c0, c1⟩ := h.cells
  clear h
  have hcmp := map_nil Try.underlying72 (some bl)
  go_enter Try.func58, Try.ntmps58
  go_wp2
  go_ret
  exact ⟨rfl, rfl⟩
/-- One that nobody made. -/
def Zm (w : World) (p : Value) : Prop := p = .pointer none ∨ ∃ b, p = .pointer (some ⟨b, 0, none⟩) ∧ w.cell? ⟨b, 0, none⟩ = some (.map none)
set_option maxRecDepth 100000 in
theorem zmnone (w : World) (p : Value) (h : Zm w p) : Calls Try.prog 58 #[p] w fun e w' => e = .returned (.bool true) ∧ w' = w := by
  rcases h with rfl | ⟨b, rfl, c0⟩
  · go_enter Try.func58, Try.ntmps58
    go_wp2
    go_ret
    exact ⟨rfl, rfl⟩
  · have hcmp := map_nil Try.underlying72 none
    go_enter Try.func58, Try.ntmps58
    go_wp2
    go_ret
    exact ⟨rfl, rfl⟩
set_option maxRecDepth 100000 in
theorem mnew (w : World) : Calls Try.prog 22 #[] w fun e w' => ∃ b bl bo, e = .returned (.pointer (some ⟨b, 0, none⟩)) ∧ M (fun _ => False) w w' [muI b bl bo [] []] := by
  have HM : Hid (M (fun _ => False) w w []) := M.start _ w
  go_enter Try.func22, Try.ntmps22
  go_wp2_with (first | ((fail_if_success (have q := HM.out.get 0 rfl)); refine wl_make rfl rfl (by (try simp only [World.size_alloc]); rfl) ?_; have HM : Hid _ := M.newMap HM.out okW wv (by (try simp only [World.size_alloc]); rfl); simp only [Act.put, List.setIfInBounds_toArray, List.set_cons_zero, List.set_cons_succ]) | (refine wl_make rfl rfl (by (try simp only [World.size_alloc]); rfl) ?_; have HM : Hid _ := M.newMap HM.out okI idv (by (try simp only [World.size_alloc]); rfl); simp only [Act.put, List.setIfInBounds_toArray, List.set_cons_zero, List.set_cons_succ]))
  go_ret
  have HM := HM.out.alloc (mc w.heap.size (w.heap.size + 1)) (by simp only [World.size_alloc]; rfl)
  have HM := HM.sub (mit (w.heap.size + 1 + 1) w.heap.size (w.heap.size + 1) [] []) [2, 0, 1] (by decide) rfl
  exact ⟨_, _, _, rfl, pack (l := []) HM (muI _ _ _ [] []) (mkMu HM) (fun k hk => mfoot_to hk)⟩
end Mu
end Go.Proofs.Ytgpimeobkacniaa


namespace Go.Proofs.Ytgpimeobkacniaa
open Go.RowKit
namespace Mu
open Oct Ids Mp
open Mem (M It blk ids rows)
open Sq (dG addG put_dG look_G zeroB lnv map_nil okI pack own_idat wl_buildL at_load at_alloc at_store)
/-- What sweep comes to. -/
structure SwPost (w : World) (b bl bo : Nat) (L : List Wr) (O : List Wd) (e : Ending) (w' : World) : Prop where
  ret : e = .returned (.tuple #[])
  mu : ∃ L', L'.Nodup ∧ (∀ x, x ∈ L' ↔ x ∈ L ∧ x.u ∉ O) ∧ MTo w w' b bl bo L' O
abbrev rW (v : Value) (L : List Wr) : It := rows 105 34 we v L
theorem we_sz (x : Wr) : (we x).toArray.size = 34 := by rw [List.size_toArray]; exact we_len x
theorem rng_wu {w : World} {b o : Nat} {x : Wr} (h : w.rangeAt b o (we x)) : w.rangeAt b o (x.u.map bv) := fun j v hj => by
  refine h j v ?_
  unfold we
  rw [List.getElem?_append_left (List.getElem?_eq_some_iff.1 hj).1]
  exact hj
theorem nodup_len {α : Type} [DecidableEq α] : ∀ {l U : List α}, l.Nodup → (∀ y ∈ l, y ∈ U) → l.length ≤ U.length
  | [], _, _, _ => Nat.zero_le _
  | x :: l, U, h, hs => by
    rw [List.nodup_cons] at h
    have := nodup_len (l := l) (U := U.erase x) h.2 (fun y hy => (List.mem_erase_of_ne (fun e => h.1 (by rw [← e]; exact hy))).2 (hs y (List.mem_cons_of_mem _ hy)))
    have h2 := hs x List.mem_cons_self
    rw [List.length_erase_of_mem h2] at this
    have := List.length_pos_of_mem h2
    rw [List.length_cons]
    omega
theorem addW_take {K : List Wr} (hK : K.Nodup) {k : Nat} {x : Wr} (hx : K[k]? = some x) : addW (K.take k) x = K.take (k + 1) := by
  have hn : x ∉ K.take k := fun hm => by
    obtain ⟨hlt, he⟩ := List.getElem?_eq_some_iff.1 hx
    have e : K = K.take k ++ x :: K.drop (k + 1) := by
      rw [← he, List.getElem_cons_drop, List.take_append_drop]
    rw [e, List.nodup_append] at hK
    exact hK.2.2 x hm x List.mem_cons_self rfl
  unfold addW
  rw [if_neg hn, List.take_add_one, hx]
  rfl
theorem wit_key {w : World} {r b : Nat} {D todo : List (Wr × Value)} {cur : Option (Wr × Value)} (_ : Iter okW wv w r b D todo cur) : True := trivial
abbrev kp (O : List Wd) (l : List Wr) : List Wr := l.filter fun x => decide (x.u ∉ O)
set_option maxRecDepth 100000 in
set_option maxHeartbeats 16000000 in
theorem sweep_any (w : World) (b bl bo : Nat) (L : List Wr) (O : List Wd) (h : MuAt w b bl bo L O) (hn : L.Nodup) (hL : L.length ≤ 1000) :
    Calls Try.prog 59 #[.pointer (some ⟨b, 0, none⟩)] w (SwPost w b bl bo L O) := by
  have HM : Hid (M (mfoot b bl bo) w w [blk b (mc bl bo), mp okW wv bl (dL L), mp okI idv bo (dG O), rW (.slice none 0 0) []]) := h.all.nilR 105 34 we
  have c0 := h.cells.1
  have HN : Hid (L.Nodup) := hn
  have HLl : Hid (L.length ≤ 1000) := hL
  clear h hn hL
  go_enter Try.func59, Try.ntmps59
  go_wp2_with (first | (at_range; refine Mp.wl_range (ok := okW) (enc := wv) Try.underlying72 rfl rfl rfl (HM.out.get 1 rfl) ?_; intro w1 i1 k1 z1; have HM : Hid _ := M.toItr HM.out 1 rfl i1 k1 z1; clear i1 k1 z1; simp only [Act.put, List.setIfInBounds_toArray, List.set_cons_zero, List.set_cons_succ]))
  go_loopw [2] (fun s2 wr => ∃ (dn : List Wr) (todo : List (Wr × Value)) (cur : Option (Wr × Value)) (v : Value), s2 = v ∧ M (mfoot b bl bo) w wr [blk b (mc bl bo), itr okW wv w.heap.size bl (dL L) todo cur, mp okI idv bo (dG O), rW v (kp O dn)] ∧ (dn ++ todo.map (·.1)).Perm L) (fun _ wr => leftN wr w.heap.size bl)
  case atStart => exact ⟨[], _, _, _, rfl, HM.out, by rw [dL_keys]; exact List.Perm.refl _⟩
  case round =>
    obtain ⟨wo, rfl⟩ : ∃ x, x = wr := ⟨wr, rfl⟩
    clear HM c0
    obtain ⟨dn, todo, cur, v, e1, hM, hP⟩ := hrel
    replace e1 := e1.symm
    subst e1
    have HM : Hid (M (mfoot b bl bo) w wo [blk b (mc bl bo), itr okW wv w.heap.size bl (dL L) todo cur, mp okI idv bo (dG O), rW v (kp O dn)]) := hM
    have HP : Hid ((dn ++ todo.map (·.1)).Perm L) := hP
    have HLft : Hid (leftN wo w.heap.size bl = todo.length) := left_is (show Iter okW wv wo w.heap.size bl (dL L) todo cur from hM.get 1 rfl)
    obtain ⟨va, vc, e1, _⟩ := (show St.Own 105 34 we wo v (kp O dn) from hM.get 3 rfl).any
    subst e1
    have HKl : Hid ((kp O dn).length ≤ 1000) := by
      show _ ≤ _
      have h1 := hP.length_eq
      have h2 := List.length_filter_le (fun x : Wr => decide (x.u ∉ O)) dn
      have h3 := HLl.out
      rw [List.length_append] at h1
      unfold kp
      omega
    clear hM hP
    cases todo with
    | nil =>
      obtain ⟨K, hK⟩ : ∃ K, kp O dn = K := ⟨_, rfl⟩
      have HKn : Hid (K.Nodup) := by
        have h1 := HP.out
        rw [List.map_nil, List.append_nil] at h1
        rw [← hK]
        exact List.Pairwise.filter _ (h1.nodup_iff.2 HN.out)
      have HKm : Hid (∀ x, x ∈ K ↔ x ∈ L ∧ x.u ∉ O) := fun x => by
        have h1 := HP.out
        rw [List.map_nil, List.append_nil] at h1
        rw [← hK]
        unfold kp
        rw [List.mem_filter, h1.mem_iff]
        simp
      rw [hK] at HM HKl ⊢
      clear hK HP
      obtain ⟨q, hq⟩ : ∃ q, K.length = q := ⟨_, rfl⟩
      have Hq : Hid (K.length = q) := hq
      rw [hq] at HM ⊢
      clear hq
      go_wp2_with (first | (at_next; refine Mp.wl_next rfl rfl rfl (HM.out.get 1 rfl) (fun _ => ?_) (fun l1 p l2 w' e => by cases l1 <;> cases e); have HM : Hid _ := M.ofItr HM.out 1 rfl; have c0 := HM.out.cell 0 rfl 0 (v := .map (some bl)) rfl; simp only [Act.put, List.setIfInBounds_toArray, List.set_cons_zero, List.set_cons_succ]) | (refine Mp.wl_clear (ok := okW) (enc := wv) Try.underlying72 rfl rfl rfl (HM.out.get 1 rfl) ?_; intro w5 h5 k5; have HM : Hid _ := M.setMap HM.out 1 rfl h5 k5; clear h5 k5; simp only [Act.put, List.setIfInBounds_toArray, List.set_cons_zero, List.set_cons_succ]))
      have hq1 : q ≤ 1000 := by have := HKl.out; have := Hq.out; omega
      go_loopw [33] (fun s33 wr => ∃ (k : Nat), k ≤ q ∧ s33 = .int .i64 k ∧ M (mfoot b bl bo) w wr [blk b (mc bl bo), mp okW wv bl (dL (K.take k)), mp okI idv bo (dG O), rW (.slice va q vc) K]) (fun s33 _ => q - (intOf s33).toNat)
      case atStart => exact ⟨0, Nat.zero_le _, by go_num, HM.out⟩
      case round =>
        clear HM
        obtain ⟨k, hk, rfl, hM⟩ := hrel
        have HM : Hid (M (mfoot b bl bo) w wr [blk b (mc bl bo), mp okW wv bl (dL (K.take k)), mp okI idv bo (dG O), rW (.slice va q vc) K]) := hM
        clear hM
        by_cases hlt : k < q
        · obtain ⟨x, hx⟩ : ∃ x, K[k]? = some x := ⟨_, List.getElem?_eq_getElem (by rw [Hq.out]; exact hlt)⟩
          obtain ⟨g0, o0, e0, _, hr0⟩ := (St.Own.slice (show St.Own 105 34 we wr (.slice va q vc) K from HM.out.get 3 rfl)).2.lay.resolve_left (by have := Hq.out; omega)
          subst e0
          have R1 : Hid (wr.rangeAt g0 (o0 + k * 34) (we x)) := hr0 k x hx
          have HA : Hid (addW (K.take k) x = K.take (k + 1)) := addW_take HKn.out hx
          clear hr0 hx
          go_wp2_with (first | ((with_reducible refine at_load 105 ?_); refine St.wl_load tyW rfl rfl rfl R1.out (we_len x) ?_; simp only [Act.put, List.setIfInBounds_toArray, List.set_cons_zero, List.set_cons_succ]) | ((with_reducible refine at_alloc 105 ?_); refine St.wl_alloc tyW rfl rfl (by (try simp only [World.size_alloc]); rfl) ?_; simp only [Act.put, List.setIfInBounds_toArray, List.set_cons_zero, List.set_cons_succ]) | ((with_reducible refine at_store 105 ?_); refine St.wl_storeN (W := wr) tyW rfl rfl rfl rfl rfl (by (try simp only [World.size_alloc])) (show _ = Value.agg (we x).toArray from rfl) (we_sz x) rfl (encW.all x) ?_; have HM : Hid _ := HM.out.alloc (.cells (we x).toArray 105) rfl))
          have HM : Hid _ := HM.out.drew
          have c0 := HM.out.cell 0 rfl 0 (v := .map (some bl)) rfl
          refine Txt.wp_region_text (fun _ => True) [0, 0, 0, 1, 1, 4] (by kernel_rfl) (by kernel_rfl) trivial ?_
          (repeat (first | (refine Txt.tl_pure (v := ?_) (by rfl) ?_ ?_; rotate_left; (focus (intro _; go_simp; try with_reducible rfl)); simp only [Act.put, List.setIfInBounds_toArray, List.set_cons_zero, List.set_cons_succ]) | (refine Txt.tl_load (v := ?_) (by rfl) (by rfl) (by rfl) (by kernel_rfl) ?_ ?_; rotate_left; (focus assumption); simp only [Act.put, List.setIfInBounds_toArray, List.set_cons_zero, List.set_cons_succ]) | (refine Txt.tl_rowN (n := 32) (ty := 35) (by rfl) (by rfl) (by rfl) RU.out (by kernel_rfl) (by rw [List.length_map]; exact HU.out) ?_; simp only [Act.put, List.setIfInBounds_toArray, List.set_cons_zero, List.set_cons_succ]) | (refine Txt.tl_rowN (n := 34) (ty := 105) (by rfl) (by rfl) (by rfl) (HM.out.range 4 rfl) (by kernel_rfl) (we_len _) ?_; simp only [Act.put, List.setIfInBounds_toArray, List.set_cons_zero, List.set_cons_succ]) | (refine Txt.tl_skip (by rfl) trivial ?_; simp only [Act.put, List.setIfInBounds_toArray, List.set_cons_zero, List.set_cons_succ])))
          refine Txt.tl_loud (by rfl) ?_
          refine Mp.wp_put wrKey Try.underlying72 rfl rfl (HM.out.get 1 rfl) (k := x) trivial rfl (v := .bool true) rfl ?_
          rw [put_dL, HA.out]
          intro w7 h7 k7
          have HM : Hid _ := M.setMap HM.out 1 rfl h7 k7
          refine ⟨trivial, ?_⟩
          simp only [Act.put, List.setIfInBounds_toArray, List.set_cons_zero, List.set_cons_succ]
          clear c0
          refine Txt.tl_nil ?_
          go_wp2
          go_roundw
          case rel => exact ⟨k + 1, by omega, by go_num, HM.out.take 4⟩
          case measure => simp [intOf]; omega
        · obtain rfl : k = q := by omega
          go_wp2
          go_end0
          have h9 := HM.out
          rw [List.take_of_length_le (by rw [Hq.out]; exact Nat.le_refl _)] at h9
          exact ⟨rfl, K, HKn.out, HKm.out, MTo.of (h9.take 3)⟩
    | cons p0 todo0 =>
      go_wp2_with (first | (at_next; refine Mp.wl_next rfl rfl rfl (HM.out.get 1 rfl) (fun e => by cases e) ?_; intro l1 p l2 w3 e3 i3 k3 z3; have HE3 : Hid _ := e3; have HM : Hid _ := M.stepItr HM.out 1 rfl i3 k3; clear e3 i3 k3 z3; simp only [Act.put, List.setIfInBounds_toArray, List.set_cons_zero, List.set_cons_succ]) | (refine Mp.wl_entry rfl rfl rfl (HM.out.get 1 rfl) ?_; simp only [Act.put, List.setIfInBounds_toArray, List.set_cons_zero, List.set_cons_succ]) | ((with_reducible refine at_alloc 105 ?_); refine St.wl_alloc tyW rfl rfl (by (try simp only [World.size_alloc]); rfl) ?_; simp only [Act.put, List.setIfInBounds_toArray, List.set_cons_zero, List.set_cons_succ]) | ((with_reducible refine at_store 105 ?_); refine St.wl_storeN (W := w3) tyW rfl rfl rfl rfl rfl (by (try simp only [World.size_alloc])) (show _ = Value.agg (we p.1).toArray from rfl) (we_sz p.1) rfl (encW.all p.1) ?_; have HM : Hid _ := HM.out.alloc (.cells (we p.1).toArray 105) rfl))
      have HU : Hid (p.1.u.length = 32) := p.1.hu
      have RU : Hid _ := rng_wu (HM.out.drew.range 4 rfl)
      have HM : Hid _ := HM.out.drew
      have c1 := HM.out.cell 0 rfl 1 (v := .map (some bo)) rfl
      refine Txt.wp_region_text (fun _ => True) [0, 0, 0, 1, 0, 1, 1, 0] (by kernel_rfl) (by kernel_rfl) trivial ?_
      (repeat (first | (refine Txt.tl_pure (v := ?_) (by rfl) ?_ ?_; rotate_left; (focus (intro _; go_simp; try with_reducible rfl)); simp only [Act.put, List.setIfInBounds_toArray, List.set_cons_zero, List.set_cons_succ]) | (refine Txt.tl_load (v := ?_) (by rfl) (by rfl) (by rfl) (by kernel_rfl) ?_ ?_; rotate_left; (focus assumption); simp only [Act.put, List.setIfInBounds_toArray, List.set_cons_zero, List.set_cons_succ]) | (refine Txt.tl_rowN (n := 32) (ty := 35) (by rfl) (by rfl) (by rfl) RU.out (by kernel_rfl) (by rw [List.length_map]; exact HU.out) ?_; simp only [Act.put, List.setIfInBounds_toArray, List.set_cons_zero, List.set_cons_succ]) | (refine Txt.tl_rowN (n := 34) (ty := 105) (by rfl) (by rfl) (by rfl) (HM.out.range 4 rfl) (by kernel_rfl) (we_len _) ?_; simp only [Act.put, List.setIfInBounds_toArray, List.set_cons_zero, List.set_cons_succ]) | (refine Txt.tl_skip (by rfl) trivial ?_; simp only [Act.put, List.setIfInBounds_toArray, List.set_cons_zero, List.set_cons_succ])))
      refine Mp.tl_look idKey Try.underlying73 (by rfl) rfl rfl (HM.out.get 2 rfl) zeroB HU.out rfl (look_G O p.1.u) ?_
      simp only [Act.put, List.setIfInBounds_toArray, List.set_cons_zero, List.set_cons_succ]
      clear c1
      have HPm : Hid ((dn ++ [p.1] ++ (l1 ++ l2).map (·.1)).Perm L) := by
        have h8 := HP.out
        rw [HE3.out] at h8
        refine List.Perm.trans ?_ h8
        simp only [List.map_append, List.map_cons, List.append_assoc, List.singleton_append]
        exact List.Perm.append_left _ List.perm_middle.symm
      have HTl : Hid ((p0 :: todo0).length = l1.length + l2.length + 1) := by
        rw [HE3.out, List.length_append, List.length_cons]
        exact rfl
      by_cases hg : p.1.u ∈ O
      · rw [decide_eq_true hg]
        have HK : Hid (kp O (dn ++ [p.1]) = kp O dn) := by
          show _ = _
          unfold kp
          rw [List.filter_append]
          simp [hg]
        clear hg
        (repeat (first | (refine Txt.tl_pure (v := ?_) (by rfl) ?_ ?_; rotate_left; (focus (intro _; go_simp; try with_reducible rfl)); simp only [Act.put, List.setIfInBounds_toArray, List.set_cons_zero, List.set_cons_succ]) | (refine Txt.tl_load (v := ?_) (by rfl) (by rfl) (by rfl) (by kernel_rfl) ?_ ?_; rotate_left; (focus assumption); simp only [Act.put, List.setIfInBounds_toArray, List.set_cons_zero, List.set_cons_succ]) | (refine Txt.tl_rowN (n := 32) (ty := 35) (by rfl) (by rfl) (by rfl) RU.out (by kernel_rfl) (by rw [List.length_map]; exact HU.out) ?_; simp only [Act.put, List.setIfInBounds_toArray, List.set_cons_zero, List.set_cons_succ]) | (refine Txt.tl_rowN (n := 34) (ty := 105) (by rfl) (by rfl) (by rfl) (HM.out.range 4 rfl) (by kernel_rfl) (we_len _) ?_; simp only [Act.put, List.setIfInBounds_toArray, List.set_cons_zero, List.set_cons_succ]) | (refine Txt.tl_skip (by rfl) trivial ?_; simp only [Act.put, List.setIfInBounds_toArray, List.set_cons_zero, List.set_cons_succ])))
        refine Txt.tl_nil ?_
        go_wp2
        go_roundw
        case rel => exact ⟨dn ++ [p.1], l1 ++ l2, some p, _, rfl, by rw [HK.out]; exact HM.out.take 4, HPm.out⟩
        case measure =>
          rw [left_is (HM.out.get 1 rfl), HLft.out, HTl.out, List.length_append]
          omega
      · rw [decide_eq_false hg]
        have HK : Hid (kp O (dn ++ [p.1]) = kp O dn ++ [p.1]) := by
          show _ = _
          unfold kp
          rw [List.filter_append]
          simp [hg]
        clear hg
        obtain ⟨q, hq⟩ : ∃ q, (kp O dn).length = q := ⟨_, rfl⟩
        have Hq : Hid ((kp O dn).length = q) := hq
        rw [hq] at HM ⊢
        clear hq
        (repeat (first | (refine Txt.tl_pure (v := ?_) (by rfl) ?_ ?_; rotate_left; (focus (intro _; go_simp; try with_reducible rfl)); simp only [Act.put, List.setIfInBounds_toArray, List.set_cons_zero, List.set_cons_succ]) | (refine Txt.tl_load (v := ?_) (by rfl) (by rfl) (by rfl) (by kernel_rfl) ?_ ?_; rotate_left; (focus assumption); simp only [Act.put, List.setIfInBounds_toArray, List.set_cons_zero, List.set_cons_succ]) | (refine Txt.tl_rowN (n := 32) (ty := 35) (by rfl) (by rfl) (by rfl) RU.out (by kernel_rfl) (by rw [List.length_map]; exact HU.out) ?_; simp only [Act.put, List.setIfInBounds_toArray, List.set_cons_zero, List.set_cons_succ]) | (refine Txt.tl_rowN (n := 34) (ty := 105) (by rfl) (by rfl) (by rfl) (HM.out.range 4 rfl) (by kernel_rfl) (we_len _) ?_; simp only [Act.put, List.setIfInBounds_toArray, List.set_cons_zero, List.set_cons_succ]) | (refine Txt.tl_skip (by rfl) trivial ?_; simp only [Act.put, List.setIfInBounds_toArray, List.set_cons_zero, List.set_cons_succ])))
        refine Txt.tl_nil ?_
        go_wp2_with (first | ((with_reducible refine at_load 105 ?_); refine St.wl_load tyW rfl rfl rfl (HM.out.range 4 rfl) (we_len p.1) ?_; simp only [Act.put, List.setIfInBounds_toArray, List.set_cons_zero, List.set_cons_succ]) | (refine St.wl_build slW (by decide) rfl rfl (we_len p.1) rfl ?_; have HM : Hid _ := HM.out.alloc (.cells (we p.1).toArray 105) (by first | rfl | simp only [World.size_alloc]); simp only [Act.put, List.setIfInBounds_toArray, List.set_cons_zero, List.set_cons_succ]) | (refine St.wl_app1 slW (by decide) rfl rfl rfl (HM.out.get 3 rfl) rfl (we_len p.1) (encW.all p.1) (HM.out.get 5 rfl) (by have := HKl.out; omega) ?_; intro v4 w4 h4 k4 g4; have HM : Hid _ := HM.out.appR 3 rfl h4 k4 g4; clear h4 k4 g4; simp only [Act.put, List.setIfInBounds_toArray, List.set_cons_zero, List.set_cons_succ]))
        go_roundw
        case rel => exact ⟨dn ++ [p.1], l1 ++ l2, some p, v4, rfl, by rw [HK.out]; exact HM.out.take 4, HPm.out⟩
        case measure =>
          rw [left_is (HM.out.get 1 rfl), HLft.out, HTl.out, List.length_append]
          omega
end Mu
end Go.Proofs.Ytgpimeobkacniaa


namespace Go.Proofs.Ytgpimeobkacniaa
open Go.RowKit
namespace Mu
open Oct Ids Mp
open Mem (M It blk ids rows)
open Sq (dG addG put_dG look_G zeroB lnv map_nil okI pack own_idat wl_buildL at_load at_alloc at_store fill_cons ex_buildL)
theorem built_W (parts : List (Nat × Value)) : Try.prog.built 105 parts = Instr.fill (fun i => #[(0, 32), (32, 1), (33, 1)][i]?) wz parts := by kernel_rfl
theorem fill_we (x : Wr) : Instr.fill (fun i => #[(0, 32), (32, 1), (33, 1)][i]?) wz [(0, idv x.u), (1, .string x.k), (2, .string x.v)] = some (we x).toArray := by
  have l32 : (x.u.map bv).length = 32 := by rw [List.length_map, x.hu]
  have lz : ((List.replicate 32 (0 : UInt8)).map bv ++ [Value.string ByteArray.empty, Value.string ByteArray.empty]).length = 34 := by decide
  show Instr.fill _ ((List.replicate 32 (0 : UInt8)).map bv ++ [Value.string ByteArray.empty, Value.string ByteArray.empty]).toArray _ = _
  rw [fill_cons (off := 0) (size := 32) (cs := x.u.map bv) rfl rfl l32 (by rw [lz]; decide)]
  rw [List.take_zero, List.nil_append]
  have l2 : (((List.replicate 32 (0 : UInt8)).map bv ++ [Value.string ByteArray.empty, Value.string ByteArray.empty]).drop (0 + 32)).length = 2 := by rw [List.length_drop, lz]
  generalize ((List.replicate 32 (0 : UInt8)).map bv ++ [Value.string ByteArray.empty, Value.string ByteArray.empty]).drop (0 + 32) = R at l2 ⊢
  rw [fill_cons (off := 32) (size := 1) (cs := [.string x.k]) rfl rfl rfl (by rw [List.length_append, l32, l2]; decide)]
  rw [List.take_left' l32, List.drop_append, List.drop_eq_nil_of_le (by rw [l32]; decide), List.nil_append, l32]
  have l3 : (R.drop (32 + 1 - 32)).length = 1 := by rw [List.length_drop, l2]
  generalize R.drop (32 + 1 - 32) = R2 at l3 ⊢
  have l4 : (x.u.map bv ++ [Value.string x.k]).length = 33 := by rw [List.length_append, l32]; rfl
  rw [fill_cons (off := 33) (size := 1) (cs := [.string x.v]) rfl rfl rfl (by rw [List.length_append, l4, l3]; decide)]
  rw [List.take_left' l4, List.drop_eq_nil_of_le (by rw [List.length_append, l4, l3]; decide), List.append_nil, Instr.fill]
  unfold we
  rw [List.append_assoc]
  rfl
theorem built_we (x : Wr) : Try.prog.built 105 [(0, idv x.u), (1, .string x.k), (2, .string x.v)] = some (we x).toArray := (built_W _).trans (fill_we x)
def addGs (O ov : List Wd) : List Wd := ov.foldl addG O
theorem mem_addG (O : List Wd) (x y : Wd) : y ∈ addG O x ↔ y ∈ O ∨ y = x := by
  unfold addG
  split
  · rename_i h
    exact ⟨.inl, fun h' => h'.elim id (fun e => e ▸ h)⟩
  · rw [List.mem_append, List.mem_singleton]
theorem mem_addGs : ∀ (ov O : List Wd) (y : Wd), y ∈ addGs O ov ↔ y ∈ O ∨ y ∈ ov
  | [], O, y => by simp [addGs]
  | x :: ov, O, y => by
    have := mem_addGs ov (addG O x) y
    unfold addGs at this ⊢
    rw [List.foldl_cons, this, mem_addG, List.mem_cons, or_assoc]
theorem addG_len (O : List Wd) (x : Wd) : (addG O x).length ≤ O.length + 1 := by
  unfold addG
  split
  · omega
  · rw [List.length_append]; exact Nat.le_refl _
theorem addGs_len : ∀ (ov O : List Wd), (addGs O ov).length ≤ O.length + ov.length
  | [], O => by simp [addGs]
  | x :: ov, O => by
    have := addGs_len ov (addG O x)
    have h2 := addG_len O x
    unfold addGs at this ⊢
    rw [List.foldl_cons, List.length_cons]
    omega
theorem addGs_take (O : List Wd) {ov : List Wd} {k : Nat} {x : Wd} (hx : ov[k]? = some x) : addG (addGs O (ov.take k)) x = addGs O (ov.take (k + 1)) := by
  unfold addGs
  rw [List.take_add_one, hx, List.foldl_append]
  rfl
theorem mem_addW (L : List Wr) (x y : Wr) : y ∈ addW L x ↔ y ∈ L ∨ y = x := by
  unfold addW
  split
  · rename_i h
    exact ⟨.inl, fun h' => h'.elim id (fun e => e ▸ h)⟩
  · rw [List.mem_append, List.mem_singleton]
theorem addW_len (L : List Wr) (x : Wr) : (addW L x).length ≤ L.length + 1 := by
  unfold addW
  split
  · omega
  · rw [List.length_append]; exact Nat.le_refl _
theorem addW_nd {L : List Wr} (h : L.Nodup) (x : Wr) : (addW L x).Nodup := by
  unfold addW
  split
  · exact h
  · rename_i hx
    rw [List.nodup_append]
    refine ⟨h, by simp, fun a ha b hb e => hx ?_⟩
    rw [← List.mem_singleton.1 hb, ← e]
    exact ha
/-- What Set answers. -/
def cdW (x : Wr) : Int := if 16 < x.k.size ∨ 16 < x.v.size then 3 else 0
structure SetPost (w : World) (b bl bo : Nat) (L : List Wr) (O : List Wd) (x : Wr) (ov : List Wd) (e : Ending) (w' : World) : Prop where
  ret : e = .returned (.int .i64 (cdW x))
  bad : cdW x ≠ 0 → MTo w w' b bl bo L O
  ok : cdW x = 0 → ∃ L', L'.Nodup ∧ (∀ y, y ∈ L' ↔ (y ∈ L ∨ y = x) ∧ y.u ∉ addGs O ov) ∧ MTo w w' b bl bo L' (addGs O ov)
theorem At.keep0 {w w' : World} {a : Option Addr} {n : Nat} {els : List Wd} (h : At w a n els) {S : Nat → Prop} (hk : Keep S w w') (hn : ∀ g o, a = some ⟨g, o, none⟩ → n ≠ 0 → ¬ S g) : At w' a n els := by
  refine ⟨h.len, h.size, h.most, ?_⟩
  rcases Nat.eq_zero_or_pos n with h0 | h0
  · exact .inl h0
  · refine h.lay.imp id ?_
    rintro ⟨b, off, ha, hb, hr⟩
    exact ⟨b, off, ha, Nat.lt_of_lt_of_le hb hk.size, fun i x hi => hk.range hb (hn b off ha (by omega)) (hr i x hi)⟩
set_option maxRecDepth 100000 in
set_option maxHeartbeats 16000000 in
theorem mset_any (w : World) (b bl bo : Nat) (L : List Wr) (O : List Wd) (h : MuAt w b bl bo L O) (hn : L.Nodup) (hL : L.length ≤ 900) (x : Wr) (hk : x.k.size ≤ maxLen) (hv : x.v.size ≤ maxLen) (oa : Option Addr) (n oc : Nat) (ov : List Wd) (ha : At w oa n ov) (hd : ∀ g o, oa = some ⟨g, o, none⟩ → n ≠ 0 → ¬ mfoot b bl bo g) :
    Calls Try.prog 26 #[.pointer (some ⟨b, 0, none⟩), idv x.u, .string x.k, .string x.v, .slice oa n oc] w (SetPost w b bl bo L O x ov) := by
  have HM : Hid (M (mfoot b bl bo) w _ [blk b (mc bl bo), mp okW wv bl (dL L), mp okI idv bo (dG O), blk w.heap.size (.cells (x.u.map bv).toArray 35)]) := h.all.alloc (.cells (x.u.map bv).toArray 35) rfl
  have HU : Hid (x.u.length = 32) := x.hu
  have HA : Hid (At w oa n ov) := ha
  have HD : Hid (∀ g o, oa = some ⟨g, o, none⟩ → n ≠ 0 → ¬ mfoot b bl bo g) := hd
  have HN : Hid (L.Nodup) := hn
  have HLl : Hid (L.length ≤ 900) := hL
  obtain ⟨cd, hcd⟩ : ∃ t, cdW x = t := ⟨_, rfl⟩
  have HC : Hid (cdW x = cd) := hcd
  unfold cdW at hcd
  have HBw : Hid _ := built_we x
  obtain ⟨kk, hkk⟩ : ∃ q, x.k = q := ⟨_, rfl⟩
  obtain ⟨vv, hvv⟩ : ∃ q, x.v = q := ⟨_, rfl⟩
  rw [hkk, hvv] at HBw
  rw [hkk] at hcd hk ⊢
  rw [hvv] at hcd hv ⊢
  have hn5 := ha.most
  unfold maxLen at hk hv hn5
  clear hkk hvv h ha hd hn hL
  have HTT : Hid _ := hcd
  clear hcd
  go_enter Try.func26, Try.ntmps26
  by_cases h1 : 16 < kk.size
  · have HE := HTT.out
    rw [if_pos (.inl h1)] at HE
    subst HE
    go_wp2_with (first | (go_at_call 58; refine (mnone _ b bl bo L O (mkMu (HM.out.take 3))).mono ?_; rintro e w1 ⟨rfl, rfl⟩))
    go_ret
    exact ⟨by rw [HC.out]; rfl, fun _ => MTo.of (HM.out.take 3), fun h => by rw [HC.out] at h; cases h⟩
  by_cases h2 : 16 < vv.size
  · have HE := HTT.out
    rw [if_pos (.inr h2)] at HE
    subst HE
    go_wp2_with (first | (go_at_call 58; refine (mnone _ b bl bo L O (mkMu (HM.out.take 3))).mono ?_; rintro e w1 ⟨rfl, rfl⟩))
    go_ret
    exact ⟨by rw [HC.out]; rfl, fun _ => MTo.of (HM.out.take 3), fun h => by rw [HC.out] at h; cases h⟩
  have HE := HTT.out
  rw [if_neg (fun h => h.elim h1 h2)] at HE
  subst HE
  go_wp2_with (first | (go_at_call 58; refine (mnone _ b bl bo L O (mkMu (HM.out.take 3))).mono ?_; rintro e w1 ⟨rfl, rfl⟩))
  have HM : Hid _ := HM.out.drew
  have c0 := HM.out.cell 0 rfl 0 (v := .map (some bl)) rfl
  have RU : Hid _ := HM.out.range 3 rfl
  refine Txt.wp_region_text (fun _ => True) [0, 0, 0, 1, 1, 0, 0, 0, 4] (by kernel_rfl) (by kernel_rfl) trivial ?_
  (repeat (first | (refine Txt.tl_pure (v := ?_) (by rfl) ?_ ?_; rotate_left; (focus (intro _; go_simp; try with_reducible rfl)); simp only [Act.put, List.setIfInBounds_toArray, List.set_cons_zero, List.set_cons_succ]) | (refine Txt.tl_load (v := ?_) (by rfl) (by rfl) (by rfl) (by kernel_rfl) ?_ ?_; rotate_left; (focus assumption); simp only [Act.put, List.setIfInBounds_toArray, List.set_cons_zero, List.set_cons_succ]) | (refine Txt.tl_rowN (n := 32) (ty := 35) (by rfl) (by rfl) (by rfl) RU.out (by kernel_rfl) (by rw [List.length_map]; exact HU.out) ?_; simp only [Act.put, List.setIfInBounds_toArray, List.set_cons_zero, List.set_cons_succ]) | (refine Txt.tl_rowN (n := 34) (ty := 105) (by rfl) (by rfl) (by rfl) (HM.out.range 3 rfl) (by kernel_rfl) (we_len _) ?_; simp only [Act.put, List.setIfInBounds_toArray, List.set_cons_zero, List.set_cons_succ]) | (refine Txt.tl_skip (by rfl) trivial ?_; simp only [Act.put, List.setIfInBounds_toArray, List.set_cons_zero, List.set_cons_succ])))
  refine Txt.tl_pure (v := .agg (we x).toArray) (by rfl) (ex_buildL rfl [(0, idv x.u), (1, .string kk), (2, .string vv)] rfl HBw.out) ?_
  simp only [Act.put, List.setIfInBounds_toArray, List.set_cons_zero, List.set_cons_succ]
  (repeat (first | (refine Txt.tl_pure (v := ?_) (by rfl) ?_ ?_; rotate_left; (focus (intro _; go_simp; try with_reducible rfl)); simp only [Act.put, List.setIfInBounds_toArray, List.set_cons_zero, List.set_cons_succ]) | (refine Txt.tl_load (v := ?_) (by rfl) (by rfl) (by rfl) (by kernel_rfl) ?_ ?_; rotate_left; (focus assumption); simp only [Act.put, List.setIfInBounds_toArray, List.set_cons_zero, List.set_cons_succ]) | (refine Txt.tl_rowN (n := 32) (ty := 35) (by rfl) (by rfl) (by rfl) RU.out (by kernel_rfl) (by rw [List.length_map]; exact HU.out) ?_; simp only [Act.put, List.setIfInBounds_toArray, List.set_cons_zero, List.set_cons_succ]) | (refine Txt.tl_rowN (n := 34) (ty := 105) (by rfl) (by rfl) (by rfl) (HM.out.range 3 rfl) (by kernel_rfl) (we_len _) ?_; simp only [Act.put, List.setIfInBounds_toArray, List.set_cons_zero, List.set_cons_succ]) | (refine Txt.tl_skip (by rfl) trivial ?_; simp only [Act.put, List.setIfInBounds_toArray, List.set_cons_zero, List.set_cons_succ])))
  refine Txt.tl_loud (by rfl) ?_
  refine Mp.wp_put wrKey Try.underlying72 rfl rfl (HM.out.get 1 rfl) (k := x) trivial rfl (v := .bool true) rfl ?_
  rw [put_dL]
  intro w7 h7 k7
  have HM : Hid (M (mfoot b bl bo) w w7 [blk b (mc bl bo), mp okW wv bl (dL (addW L x)), mp okI idv bo (dG (addGs O (ov.take 0))), blk w.heap.size (.cells (x.u.map bv).toArray 35)]) := M.setMap HM.out 1 rfl h7 k7
  refine ⟨trivial, ?_⟩
  simp only [Act.put, List.setIfInBounds_toArray, List.set_cons_zero, List.set_cons_succ]
  clear c0 h7 k7 RU
  refine Txt.tl_nil ?_
  go_wp2
  go_loopw [33] (fun s33 wr => ∃ (k : Nat), k ≤ n ∧ s33 = .int .i64 k ∧ M (mfoot b bl bo) w wr [blk b (mc bl bo), mp okW wv bl (dL (addW L x)), mp okI idv bo (dG (addGs O (ov.take k))), blk w.heap.size (.cells (x.u.map bv).toArray 35)]) (fun s33 _ => n - (intOf s33).toNat)
  case atStart => exact ⟨0, Nat.zero_le _, by go_num, HM.out⟩
  case round =>
    clear HM
    obtain ⟨k, hk, rfl, hM⟩ := hrel
    have HM : Hid (M (mfoot b bl bo) w wr [blk b (mc bl bo), mp okW wv bl (dL (addW L x)), mp okI idv bo (dG (addGs O (ov.take k))), blk w.heap.size (.cells (x.u.map bv).toArray 35)]) := hM
    clear hM
    by_cases hlt : k < n
    · have hA : At wr oa n ov := At.keep0 HA.out HM.out.keep (fun g o e => HD.out g o e)
      obtain ⟨y, hy⟩ : ∃ y, ov[k]? = some y := ⟨_, List.getElem?_eq_getElem (by rw [hA.len]; exact hlt)⟩
      have HY : Hid (addG (addGs O (ov.take k)) y = addGs O (ov.take (k + 1))) := addGs_take O hy
      have HU2 : Hid (y.length = 32) := hA.size y (List.mem_of_getElem? hy)
      have HUs : Hid ((y.map bv).toArray.size = 32) := by show _ = _; rw [List.size_toArray, List.length_map]; exact HU2.out
      obtain ⟨g0, o0, e0, _, hr0⟩ := hA.lay.resolve_left (by omega)
      have R1 : Hid (wr.rangeAt g0 (o0 + k * 32) (y.map bv)) := hr0 k y hy
      subst e0
      clear hr0 hy hA
      go_wp2_with (first | ((with_reducible refine at_load 35 ?_); refine Ids.wl_load rfl rfl rfl HU2.out R1.out ?_; simp only [Act.put, List.setIfInBounds_toArray, List.set_cons_zero, List.set_cons_succ]) | ((with_reducible refine at_alloc 35 ?_); refine St.wl_alloc Sq.tyI rfl rfl (by (try simp only [World.size_alloc]); rfl) ?_; simp only [Act.put, List.setIfInBounds_toArray, List.set_cons_zero, List.set_cons_succ]) | ((with_reducible refine at_store 35 ?_); refine St.wl_storeN (W := wr) Sq.tyI rfl rfl rfl rfl rfl (by (try simp only [World.size_alloc])) (show _ = Value.agg (y.map bv).toArray from rfl) HUs.out rfl (one_bv _) ?_; have HM : Hid _ := HM.out.alloc (.cells (y.map bv).toArray 35) rfl))
      have HM : Hid _ := HM.out.drew
      have c0 := HM.out.cell 0 rfl 1 (v := .map (some bo)) rfl
      have RU : Hid _ := HM.out.range 4 rfl
      have HU : Hid (y.length = 32) := HU2.out
      refine Txt.wp_region_text (fun _ => True) [0, 0, 0, 1, 1, 4] (by kernel_rfl) (by kernel_rfl) trivial ?_
      (repeat (first | (refine Txt.tl_pure (v := ?_) (by rfl) ?_ ?_; rotate_left; (focus (intro _; go_simp; try with_reducible rfl)); simp only [Act.put, List.setIfInBounds_toArray, List.set_cons_zero, List.set_cons_succ]) | (refine Txt.tl_load (v := ?_) (by rfl) (by rfl) (by rfl) (by kernel_rfl) ?_ ?_; rotate_left; (focus assumption); simp only [Act.put, List.setIfInBounds_toArray, List.set_cons_zero, List.set_cons_succ]) | (refine Txt.tl_rowN (n := 32) (ty := 35) (by rfl) (by rfl) (by rfl) RU.out (by kernel_rfl) (by rw [List.length_map]; exact HU.out) ?_; simp only [Act.put, List.setIfInBounds_toArray, List.set_cons_zero, List.set_cons_succ]) | (refine Txt.tl_rowN (n := 34) (ty := 105) (by rfl) (by rfl) (by rfl) (HM.out.range 4 rfl) (by kernel_rfl) (we_len _) ?_; simp only [Act.put, List.setIfInBounds_toArray, List.set_cons_zero, List.set_cons_succ]) | (refine Txt.tl_skip (by rfl) trivial ?_; simp only [Act.put, List.setIfInBounds_toArray, List.set_cons_zero, List.set_cons_succ])))
      refine Txt.tl_loud (by rfl) ?_
      refine Mp.wp_put idKey Try.underlying73 rfl rfl (HM.out.get 2 rfl) HU.out rfl (v := .bool true) rfl ?_
      rw [put_dG, HY.out]
      intro w8 h8 k8
      have HM : Hid _ := M.setMap HM.out 2 rfl h8 k8
      refine ⟨trivial, ?_⟩
      simp only [Act.put, List.setIfInBounds_toArray, List.set_cons_zero, List.set_cons_succ]
      clear c0 h8 k8
      refine Txt.tl_nil ?_
      go_wp2
      go_roundw
      case rel => exact ⟨k + 1, by omega, by go_num, HM.out.take 4⟩
      case measure => simp [intOf]; omega
    · obtain rfl : k = n := by omega
      have HO : Hid (addGs O (ov.take k) = addGs O ov) := by
        show _ = _
        rw [List.take_of_length_le (Nat.le_of_eq HA.out.len)]
      rw [HO.out] at HM
      go_wp2_with (first | (go_at_call 59; refine (sweep_any _ b bl bo _ _ (mkMu (HM.out.take 3)) (addW_nd HN.out x) (by have := addW_len L x; have := HLl.out; omega)).mono ?_; rintro e w9 ⟨rfl, L', p1, p2, p3⟩))
      go_ret
      refine ⟨by rw [HC.out]; rfl, fun h => absurd HC.out h, fun _ => ⟨L', p1, fun y => ?_, p3.mu, HM.out.keep.trans p3.keep⟩⟩
      rw [p2 y, mem_addW]
end Mu
end Go.Proofs.Ytgpimeobkacniaa


namespace Go.Proofs.Ytgpimeobkacniaa
open Go.RowKit
namespace Mu
open Oct Ids Mp
open Mem (M It blk ids rows)
open Sq (dG addG put_dG look_G zeroB lnv map_nil okI pack own_idat wl_buildL at_load at_alloc at_store fill_cons ex_buildL it_key tyI)
/-- What gone comes to. -/
structure KeyPost (w : World) (b bl bo : Nat) (L : List Wr) (O l : List Wd) (e : Ending) (w' : World) : Prop where
  ex : ∃ v, e = .returned v ∧ M (mfoot b bl bo) w w' [muI b bl bo L O, ids v l]
theorem packMu {F : Nat → Prop} {w0 w : World} {b bl bo : Nat} {L : List Wr} {O : List Wd} {y : It} (h : M F w0 w ([y] ++ mit b bl bo L O)) : M F w0 w [muI b bl bo L O, y] :=
  (pack h (muI b bl bo L O) (mkMu (h.sub (mit b bl bo L O) [1, 2, 3] (by decide) rfl)) (fun k hk => mfoot_to hk)).sub _ [1, 0] (by decide) rfl
set_option maxRecDepth 100000 in
set_option maxHeartbeats 8000000 in
theorem gone_any (w : World) (b bl bo : Nat) (L : List Wr) (O : List Wd) (h : MuAt w b bl bo L O) (hO : O.length ≤ 1000) (l : List Wd) (hl : ∀ K : List Wd, (∀ u, u ∈ K ↔ u ∈ O) → IdL.setL K = l) :
    Calls Try.prog 67 #[.pointer (some ⟨b, 0, none⟩)] w (KeyPost w b bl bo L O l) := by
  have HLs : Hid (∀ K : List Wd, (∀ u, u ∈ K ↔ u ∈ O) → IdL.setL K = l) := hl
  have HNl : Hid ((dG O).length ≤ 1000) := by show _ ≤ _; unfold dG; rw [List.length_map]; exact hO
  have HKs : Hid ((dG O).map (·.1) = O) := by show _ = _; unfold dG; rw [List.map_map]; exact List.map_id O
  have HM : Hid (M (mfoot b bl bo) w w [blk b (mc bl bo), mp okW wv bl (dL L), mp okI idv bo (dG O), ids (.slice none 0 0) []]) := h.all.nilI
  have c0 := h.cells.2
  clear h hO hl
  go_enter Try.func67, Try.ntmps67
  go_wp2_with (first | (at_range; refine Mp.wl_range (ok := okI) (enc := idv) Try.underlying73 rfl rfl rfl (HM.out.get 2 rfl) ?_; intro w1 i1 k1 z1; have HM : Hid _ := M.toItr HM.out 2 rfl i1 k1 z1; clear i1 k1 z1; simp only [Act.put, List.setIfInBounds_toArray, List.set_cons_zero, List.set_cons_succ]))
  go_loopw [3] (fun s3 wr => ∃ (done : List Wd) (todo : List (Wd × Value)) (cur : Option (Wd × Value)) (v : Value), s3 = v ∧ M (mfoot b bl bo) w wr [blk b (mc bl bo), mp okW wv bl (dL L), itr okI idv w.heap.size bo (dG O) todo cur, ids v done] ∧ (done ++ todo.map (·.1)).Perm ((dG O).map (·.1))) (fun s3 _ => 1000 - lnv s3)
  case atStart => exact ⟨[], _, _, _, rfl, HM.out, List.Perm.refl _⟩
  case round =>
    clear HM c0
    obtain ⟨done, todo, cur, v, e1, hM, hP⟩ := hrel
    replace e1 := e1.symm
    subst e1
    have HM : Hid _ := hM
    have HP : Hid _ := hP
    obtain ⟨va, vc, e1, _⟩ := (show Ids.Own wr v done from HM.out.get 3 rfl).at
    subst e1
    have HLd : Hid (done.length + todo.length ≤ 1000) := by
      show _ ≤ _
      have := hP.length_eq
      rw [List.length_append, List.length_map, List.length_map] at this
      rw [this]
      exact HNl.out
    obtain ⟨q, hq⟩ : ∃ q, done.length = q := ⟨_, rfl⟩
    have Hq : Hid (done.length = q) := hq
    rw [hq] at HM ⊢
    clear hM hP
    have hq1 : q ≤ 1000 := by have := HLd.out; omega
    clear hq
    cases todo with
    | nil =>
      have HE : Hid (IdL.setL done = l) := HLs.out done (fun u => by
        have := HP.out.mem_iff (a := u)
        rw [List.map_nil, List.append_nil, HKs.out] at this
        exact this)
      go_wp2_with (first | (at_next; refine Mp.wl_next rfl rfl rfl (HM.out.get 2 rfl) (fun _ => ?_) (fun l1 p l2 w' e => by cases l1 <;> cases e); simp only [Act.put, List.setIfInBounds_toArray, List.set_cons_zero, List.set_cons_succ]) | (go_at_call 57; refine (set_any _ va q vc done (own_idat (HM.out.get 3 rfl)) (by omega)).mono ?_; rintro e w2 ⟨v2, rfl, o2, k2, f2⟩; rw [HE.out] at o2; have HM : Hid _ := HM.out.add (x := ids v2 l) k2 o2 (fun k hk => ⟨f2 k hk, o2.lt hk⟩); clear o2 k2 f2))
      go_ret
      have h9 := M.ofItr HM.out 2 rfl
      exact ⟨_, rfl, packMu (h9.sub _ [4, 0, 1, 2] (by decide) rfl)⟩
    | cons p0 todo0 =>
      go_wp2_with (first | (at_next; refine Mp.wl_next rfl rfl rfl (HM.out.get 2 rfl) (fun e => by cases e) ?_; intro l1 p l2 w3 e3 i3 k3 z3; have HU : Hid (p.1.length = 32) := it_key i3 (by rw [← e3]; exact HP.out); have HUs : Hid ((p.1.map bv).toArray.size = 32) := (by show _ = _; rw [List.size_toArray, List.length_map]; exact HU.out); have HE3 : Hid _ := e3; have HM : Hid _ := M.stepItr HM.out 2 rfl i3 k3; clear e3 i3 k3 z3; simp only [Act.put, List.setIfInBounds_toArray, List.set_cons_zero, List.set_cons_succ]) | (refine Mp.wl_entry rfl rfl rfl (HM.out.get 2 rfl) ?_; simp only [Act.put, List.setIfInBounds_toArray, List.set_cons_zero, List.set_cons_succ]) | ((with_reducible refine at_alloc 35 ?_); refine St.wl_alloc tyI rfl rfl (by (try simp only [World.size_alloc]); rfl) ?_; simp only [Act.put, List.setIfInBounds_toArray, List.set_cons_zero, List.set_cons_succ]) | ((with_reducible refine at_store 35 ?_); refine St.wl_storeN (W := w3) tyI rfl rfl rfl rfl rfl (by (try simp only [World.size_alloc])) (show _ = Value.agg (p.1.map bv).toArray from rfl) HUs.out rfl (one_bv _) ?_; have HM : Hid _ := HM.out.alloc (.cells (p.1.map bv).toArray 35) rfl) | ((with_reducible refine at_load 35 ?_); refine Ids.wl_load rfl rfl rfl HU.out (HM.out.range 4 rfl) ?_; simp only [Act.put, List.setIfInBounds_toArray, List.set_cons_zero, List.set_cons_succ]) | (refine Ids.wl_build rfl rfl HU.out rfl ?_; have HM : Hid _ := HM.out.alloc (.cells (p.1.map bv).toArray 35) rfl; simp only [Act.put, List.setIfInBounds_toArray, List.set_cons_zero, List.set_cons_succ]) | (refine Ids.wl_app1 rfl rfl rfl (HM.out.get 3 rfl) rfl HU.out (HM.out.get 5 rfl) (by have := Hq.out; omega) ?_; intro v4 w4 h4 k4 g4; have HM : Hid _ := HM.out.appI 3 rfl h4 k4 g4; clear h4 k4 g4; simp only [Act.put, List.setIfInBounds_toArray, List.set_cons_zero, List.set_cons_succ]))
      go_roundw
      case rel =>
        refine ⟨done ++ [p.1], l1 ++ l2, some p, v4, rfl, HM.out.take 4, ?_⟩
        have h8 := HP.out
        rw [HE3.out] at h8
        refine List.Perm.trans ?_ h8
        simp only [List.map_append, List.map_cons, List.append_assoc, List.singleton_append]
        exact List.Perm.append_left _ List.perm_middle.symm
      case measure =>
        obtain ⟨a4, c4, e4, _⟩ := (show Ids.Own _ v4 (done ++ [p.1]) from HM.out.get 3 rfl).at
        subst e4
        have h1 := Hq.out
        have h2 := HLd.out
        rw [List.length_cons] at h2
        simp [lnv]
        omega
end Mu
end Go.Proofs.Ytgpimeobkacniaa


namespace Go.Proofs.Ytgpimeobkacniaa
open Go.RowKit
namespace Mu
open Oct Ids Mp
open Mem (M It blk ids rows)
open Sq (dG addG put_dG look_G zeroB lnv map_nil okI pack own_idat wl_buildL at_load at_alloc at_store fill_cons ex_buildL it_key tyI)
theorem bl_asym (x y : Wd) (h : bl x y = true) : bl y x = false := by
  cases h2 : bl y x with
  | false => rfl
  | true =>
    have := bl_trans _ _ _ h h2
    rw [bl_irr] at this
    cases this
theorem gtr_bl (x y : Wd) : (!(bl x y || x == y)) = bl y x := by
  rcases bl_tri x y with h | h | h
  · rw [h, bl_asym x y h]; rfl
  · subst h
    rw [bl_irr]
    simp
  · have h2 := bl_asym y x h
    rw [h, h2]
    have : (x == y) = false := by
      cases he : x == y with
      | false => rfl
      | true =>
        have : x = y := by simpa using he
        subst this
        rw [bl_irr] at h
        cases h
    rw [this]
    rfl
set_option maxRecDepth 100000 in
theorem isnan_any (w : World) (s : ByteArray) : Calls Try.prog 101 #[.string s] w fun e w' => e = .returned (.bool false) ∧ w' = w := by
  go_enter Try.func101, Try.ntmps101
  go_wp2
  go_ret
  exact ⟨by simp, rfl⟩
set_option maxRecDepth 100000 in
set_option maxHeartbeats 2000000 in
theorem strcmp_any (w : World) (s t : ByteArray) : Calls Try.prog 64 #[.string s, .string t] w fun e w' => e = .returned (.int .i64 (cmpS s.toList t.toList)) ∧ w' = w := by
  have hcmp : ∀ w, Sem.run Try.prog (binOp .gtr 9 (.string s) (.string t)) w = .ok (.bool (Op.bytesLess t.toList s.toList)) w := fun w => by
    have := gtr_bl s.toList t.toList
    unfold bl at this
    rw [← this]
    rfl
  go_enter Try.func64, Try.ntmps64
  go_wp2_with (first | (go_at_call 101; refine (isnan_any _ _).mono ?_; rintro e w1 ⟨rfl, h3⟩; replace h3 := h3.symm; subst h3))
  all_goals (try go_wp2)
  all_goals
    go_ret
    refine ⟨?_, rfl⟩
    unfold cmpS
    simp_all [bl]
/-- The first that is not nought. -/
def orL : List Int → Int
  | [] => 0
  | a :: l => if a ≠ 0 then a else orL l
theorem orL_step {l : List Int} {i : Nat} {v : Int} (hv : l[i]? = some v) (h : orL l = orL (l.drop i)) : (v ≠ 0 → orL l = v) ∧ (v = 0 → orL l = orL (l.drop (i + 1))) := by
  obtain ⟨hlt, he⟩ := List.getElem?_eq_some_iff.1 hv
  rw [h, ← List.getElem_cons_drop hlt, he, orL]
  exact ⟨fun h0 => if_pos h0, fun h0 => if_neg (fun h1 => h1 h0)⟩
set_option maxRecDepth 100000 in
set_option maxHeartbeats 2000000 in
theorem or_any (w : World) (g n c : Nat) (l : List Int) (hn : l.length = n) (hn3 : n ≤ 3) (hl : ∀ (i : Nat) (v : Int), l[i]? = some v → w.cell? ⟨g, i, none⟩ = some (.int .i64 v)) :
    Calls Try.prog 63 #[.slice (some ⟨g, 0, none⟩) n c] w fun e w' => e = .returned (.int .i64 (orL l)) ∧ w' = w := by
  have HL : Hid (∀ (i : Nat) (v : Int), l[i]? = some v → w.cell? ⟨g, i, none⟩ = some (.int .i64 v)) := hl
  have HN : Hid (l.length = n) := hn
  clear hl hn
  go_enter Try.func63, Try.ntmps63
  go_wp2
  go_loopw [8, 5] (fun s8 s5 wr => ∃ (i : Nat) (v5 : Value), i ≤ n ∧ s8 = .int .i64 i ∧ s5 = v5 ∧ wr = w ∧ orL l = orL (l.drop i)) (fun s8 _ _ => n - (intOf s8).toNat)
  case atStart => exact ⟨0, _, Nat.zero_le _, by go_num, rfl, rfl, rfl⟩
  case round =>
    obtain ⟨i, v5, hi, rfl, rfl, rfl, hO⟩ := hrel
    have HO : Hid _ := hO
    clear hO
    by_cases hlt : i < n
    · obtain ⟨v, hv⟩ : ∃ v, l[i]? = some v := ⟨_, List.getElem?_eq_getElem (by rw [HN.out]; exact hlt)⟩
      have c1 := HL.out i v hv
      have HS : Hid _ := orL_step hv HO.out
      clear hv
      by_cases h0 : v = 0
      · subst h0
        have HE : Hid _ := HS.out.2 rfl
        clear HS
        go_wp2
        go_roundw
        case rel => exact ⟨i + 1, _, by omega, by go_num, rfl, trivial, HE.out⟩
        case measure => simp [intOf]; omega
      · have HE : Hid _ := HS.out.1 h0
        clear HS
        go_wp2
        go_ret
        exact ⟨by rw [HE.out]; rfl, rfl⟩
    · obtain rfl : i = n := by omega
      go_wp2
      go_ret
      refine ⟨?_, rfl⟩
      rw [HO.out, List.drop_eq_nil_of_le (by rw [HN.out]; exact Nat.le_refl _)]
      rfl
theorem orL_3 (a b c : Int) : orL [a, b, c] = orI a b c := by
  unfold orI orL orL orL orL
  split
  · rfl
  · split
    · rfl
    · split
      · rfl
      · rename_i h; simpa using Eq.symm (Decidable.not_not.1 h)
theorem int_cells {w : World} {g : Nat} {l : List Int} {t : TypeId} {fr : Nat × Nat} (h : w.heap[g]? = some (.cells (l.map (Value.int .i64)).toArray t fr)) : ∀ (i : Nat) (v : Int), l[i]? = some v → w.cell? ⟨g, i, none⟩ = some (.int .i64 v) := fun i v hi => by
  rw [cell_of h, List.getElem?_toArray, List.getElem?_map, hi]
  rfl
theorem rng_wk {w : World} {b o : Nat} {x : Wr} (h : w.rangeAt b o (we x)) : w.cell? ⟨b, o + 32, none⟩ = some (.string x.k) := h 32 _ (we_32 x)
theorem rng_wv {w : World} {b o : Nat} {x : Wr} (h : w.rangeAt b o (we x)) : w.cell? ⟨b, o + 33, none⟩ = some (.string x.v) := h 33 _ (we_33 x)
set_option maxRecDepth 100000 in
set_option maxHeartbeats 4000000 in
theorem order_any (w : World) (x y : Wr) : Calls Try.prog 84 #[wv x, wv y] w fun e w' => e = .returned (.int .i64 (cmpW x y)) ∧ Lay w w' := by
  have HM : Hid (M (fun _ => False) w _ [blk w.heap.size (.cells (we x).toArray 105), blk (w.heap.size + 1) (.cells (we y).toArray 105)]) := ((M.start _ w).alloc (.cells (we x).toArray 105) rfl).alloc (.cells (we y).toArray 105) (by simp)
  have HLy : Hid (Lay w _) := ((Lay.refl w).alloc (.cells (we x).toArray 105)).alloc (.cells (we y).toArray 105)
  have HS : Hid (∀ w', M (fun _ => False) w w' [blk w.heap.size (.cells (we x).toArray 105), blk (w.heap.size + 1) (.cells (we y).toArray 105)] → (w'.rangeAt w.heap.size 0 (we x) ∧ w'.rangeAt (w.heap.size + 1) 0 (we y))) := fun w' h => ⟨h.range 0 rfl, h.range 1 rfl⟩
  have Hc : Hid (∀ w, Calls Try.prog 87 #[idv x.u, idv y.u] w fun e w' => e = .returned (.int .i64 (IdL.cmpL x.u y.u)) ∧ Lay w w') := fun w => compare_any w x.u y.u x.hu y.hu
  have Hk : Hid (∀ w, Calls Try.prog 64 #[.string x.k, .string y.k] w fun e w' => e = .returned (.int .i64 (cmpS x.k.toList y.k.toList)) ∧ w' = w) := fun w => strcmp_any w x.k y.k
  have Hv : Hid (∀ w, Calls Try.prog 64 #[.string x.v, .string y.v] w fun e w' => e = .returned (.int .i64 (cmpS x.v.toList y.v.toList)) ∧ w' = w) := fun w => strcmp_any w x.v y.v
  have HO : Hid (cmpW x y = orL [IdL.cmpL x.u y.u, cmpS x.k.toList y.k.toList, cmpS x.v.toList y.v.toList]) := (orL_3 _ _ _).symm
  generalize IdL.cmpL x.u y.u = a1 at Hc HO
  generalize cmpS x.k.toList y.k.toList = a2 at Hk HO
  generalize cmpS x.v.toList y.v.toList = a3 at Hv HO
  go_enter Try.func84, Try.ntmps84
  go_wp2
  refine Txt.wp_region_text (fun w' => w'.rangeAt w.heap.size 0 (we x) ∧ w'.rangeAt (w.heap.size + 1) 0 (we y)) [0, 1, 0, 1, 4, 0, 2, 0, 2, 4, 0, 2, 0, 2, 4, 3, 4, 0] (by kernel_rfl) (by kernel_rfl) (HS.out _ HM.out.drew) ?_
  have HM : Hid _ := HM.out.drew
  have HLy : Hid (Lay w _) := HLy.out.drew
  (repeat (first | (refine Txt.tl_pure (v := ?_) (by rfl) ?_ ?_; rotate_left; (focus (intro _; go_simp; try with_reducible rfl)); simp only [Act.put, List.setIfInBounds_toArray, List.set_cons_zero, List.set_cons_succ]) | (refine Txt.tl_rowN (n := 32) (ty := 35) (by rfl) (by rfl) (by rfl) (rng_wu (HM.out.range 0 rfl)) (by kernel_rfl) (by rw [List.length_map]; exact x.hu) ?_; simp only [Act.put, List.setIfInBounds_toArray, List.set_cons_zero, List.set_cons_succ]) | (refine Txt.tl_rowN (n := 32) (ty := 35) (by rfl) (by rfl) (by rfl) (rng_wu (HM.out.range 1 rfl)) (by kernel_rfl) (by rw [List.length_map]; exact y.hu) ?_; simp only [Act.put, List.setIfInBounds_toArray, List.set_cons_zero, List.set_cons_succ]) | (refine Txt.tl_loadS (v := .string x.k) (by rfl) (by rfl) (by rfl) (by kernel_rfl) (fun _ h => rng_wk h.1) ?_; simp only [Act.put, List.setIfInBounds_toArray, List.set_cons_zero, List.set_cons_succ]) | (refine Txt.tl_loadS (v := .string y.k) (by rfl) (by rfl) (by rfl) (by kernel_rfl) (fun _ h => rng_wk h.2) ?_; simp only [Act.put, List.setIfInBounds_toArray, List.set_cons_zero, List.set_cons_succ]) | (refine Txt.tl_loadS (v := .string x.v) (by rfl) (by rfl) (by rfl) (by kernel_rfl) (fun _ h => rng_wv h.1) ?_; simp only [Act.put, List.setIfInBounds_toArray, List.set_cons_zero, List.set_cons_succ]) | (refine Txt.tl_loadS (v := .string y.v) (by rfl) (by rfl) (by rfl) (by kernel_rfl) (fun _ h => rng_wv h.2) ?_; simp only [Act.put, List.setIfInBounds_toArray, List.set_cons_zero, List.set_cons_succ])))
  refine Txt.tl_call Try.func87 (by kernel_rfl) (by kernel_rfl) (by rfl) (by rfl) (by rfl) (Hc.out _) ?_
  rintro e w1 ⟨rfl, k1⟩
  have HM : Hid _ := HM.out.calm k1.keep
  have HLy : Hid (Lay w _) := Lay.trans HLy.out k1
  clear k1
  refine ⟨_, rfl, HS.out _ HM.out, ?_⟩
  simp only [Act.put, List.setIfInBounds_toArray, List.set_cons_zero, List.set_cons_succ]
  (repeat (first | (refine Txt.tl_pure (v := ?_) (by rfl) ?_ ?_; rotate_left; (focus (intro _; go_simp; try with_reducible rfl)); simp only [Act.put, List.setIfInBounds_toArray, List.set_cons_zero, List.set_cons_succ]) | (refine Txt.tl_rowN (n := 32) (ty := 35) (by rfl) (by rfl) (by rfl) (rng_wu (HM.out.range 0 rfl)) (by kernel_rfl) (by rw [List.length_map]; exact x.hu) ?_; simp only [Act.put, List.setIfInBounds_toArray, List.set_cons_zero, List.set_cons_succ]) | (refine Txt.tl_rowN (n := 32) (ty := 35) (by rfl) (by rfl) (by rfl) (rng_wu (HM.out.range 1 rfl)) (by kernel_rfl) (by rw [List.length_map]; exact y.hu) ?_; simp only [Act.put, List.setIfInBounds_toArray, List.set_cons_zero, List.set_cons_succ]) | (refine Txt.tl_loadS (v := .string x.k) (by rfl) (by rfl) (by rfl) (by kernel_rfl) (fun _ h => rng_wk h.1) ?_; simp only [Act.put, List.setIfInBounds_toArray, List.set_cons_zero, List.set_cons_succ]) | (refine Txt.tl_loadS (v := .string y.k) (by rfl) (by rfl) (by rfl) (by kernel_rfl) (fun _ h => rng_wk h.2) ?_; simp only [Act.put, List.setIfInBounds_toArray, List.set_cons_zero, List.set_cons_succ]) | (refine Txt.tl_loadS (v := .string x.v) (by rfl) (by rfl) (by rfl) (by kernel_rfl) (fun _ h => rng_wv h.1) ?_; simp only [Act.put, List.setIfInBounds_toArray, List.set_cons_zero, List.set_cons_succ]) | (refine Txt.tl_loadS (v := .string y.v) (by rfl) (by rfl) (by rfl) (by kernel_rfl) (fun _ h => rng_wv h.2) ?_; simp only [Act.put, List.setIfInBounds_toArray, List.set_cons_zero, List.set_cons_succ])))
  refine Txt.tl_call Try.func64 (by kernel_rfl) (by kernel_rfl) (by rfl) (by rfl) (by rfl) (Hk.out _) ?_
  rintro e w2 ⟨rfl, h2⟩
  replace h2 := h2.symm
  subst h2
  refine ⟨_, rfl, HS.out _ HM.out, ?_⟩
  simp only [Act.put, List.setIfInBounds_toArray, List.set_cons_zero, List.set_cons_succ]
  (repeat (first | (refine Txt.tl_pure (v := ?_) (by rfl) ?_ ?_; rotate_left; (focus (intro _; go_simp; try with_reducible rfl)); simp only [Act.put, List.setIfInBounds_toArray, List.set_cons_zero, List.set_cons_succ]) | (refine Txt.tl_rowN (n := 32) (ty := 35) (by rfl) (by rfl) (by rfl) (rng_wu (HM.out.range 0 rfl)) (by kernel_rfl) (by rw [List.length_map]; exact x.hu) ?_; simp only [Act.put, List.setIfInBounds_toArray, List.set_cons_zero, List.set_cons_succ]) | (refine Txt.tl_rowN (n := 32) (ty := 35) (by rfl) (by rfl) (by rfl) (rng_wu (HM.out.range 1 rfl)) (by kernel_rfl) (by rw [List.length_map]; exact y.hu) ?_; simp only [Act.put, List.setIfInBounds_toArray, List.set_cons_zero, List.set_cons_succ]) | (refine Txt.tl_loadS (v := .string x.k) (by rfl) (by rfl) (by rfl) (by kernel_rfl) (fun _ h => rng_wk h.1) ?_; simp only [Act.put, List.setIfInBounds_toArray, List.set_cons_zero, List.set_cons_succ]) | (refine Txt.tl_loadS (v := .string y.k) (by rfl) (by rfl) (by rfl) (by kernel_rfl) (fun _ h => rng_wk h.2) ?_; simp only [Act.put, List.setIfInBounds_toArray, List.set_cons_zero, List.set_cons_succ]) | (refine Txt.tl_loadS (v := .string x.v) (by rfl) (by rfl) (by rfl) (by kernel_rfl) (fun _ h => rng_wv h.1) ?_; simp only [Act.put, List.setIfInBounds_toArray, List.set_cons_zero, List.set_cons_succ]) | (refine Txt.tl_loadS (v := .string y.v) (by rfl) (by rfl) (by rfl) (by kernel_rfl) (fun _ h => rng_wv h.2) ?_; simp only [Act.put, List.setIfInBounds_toArray, List.set_cons_zero, List.set_cons_succ])))
  refine Txt.tl_call Try.func64 (by kernel_rfl) (by kernel_rfl) (by rfl) (by rfl) (by rfl) (Hv.out _) ?_
  rintro e w2 ⟨rfl, h2⟩
  replace h2 := h2.symm
  subst h2
  refine ⟨_, rfl, HS.out _ HM.out, ?_⟩
  simp only [Act.put, List.setIfInBounds_toArray, List.set_cons_zero, List.set_cons_succ]
  (repeat (first | (refine Txt.tl_pure (v := ?_) (by rfl) ?_ ?_; rotate_left; (focus (intro _; go_simp; try with_reducible rfl)); simp only [Act.put, List.setIfInBounds_toArray, List.set_cons_zero, List.set_cons_succ]) | (refine Txt.tl_rowN (n := 32) (ty := 35) (by rfl) (by rfl) (by rfl) (rng_wu (HM.out.range 0 rfl)) (by kernel_rfl) (by rw [List.length_map]; exact x.hu) ?_; simp only [Act.put, List.setIfInBounds_toArray, List.set_cons_zero, List.set_cons_succ]) | (refine Txt.tl_rowN (n := 32) (ty := 35) (by rfl) (by rfl) (by rfl) (rng_wu (HM.out.range 1 rfl)) (by kernel_rfl) (by rw [List.length_map]; exact y.hu) ?_; simp only [Act.put, List.setIfInBounds_toArray, List.set_cons_zero, List.set_cons_succ]) | (refine Txt.tl_loadS (v := .string x.k) (by rfl) (by rfl) (by rfl) (by kernel_rfl) (fun _ h => rng_wk h.1) ?_; simp only [Act.put, List.setIfInBounds_toArray, List.set_cons_zero, List.set_cons_succ]) | (refine Txt.tl_loadS (v := .string y.k) (by rfl) (by rfl) (by rfl) (by kernel_rfl) (fun _ h => rng_wk h.2) ?_; simp only [Act.put, List.setIfInBounds_toArray, List.set_cons_zero, List.set_cons_succ]) | (refine Txt.tl_loadS (v := .string x.v) (by rfl) (by rfl) (by rfl) (by kernel_rfl) (fun _ h => rng_wv h.1) ?_; simp only [Act.put, List.setIfInBounds_toArray, List.set_cons_zero, List.set_cons_succ]) | (refine Txt.tl_loadS (v := .string y.v) (by rfl) (by rfl) (by rfl) (by kernel_rfl) (fun _ h => rng_wv h.2) ?_; simp only [Act.put, List.setIfInBounds_toArray, List.set_cons_zero, List.set_cons_succ])))
  refine Txt.tl_alloc (by rfl) ?_
  go_simp
  have HM : Hid _ := HM.out.alloc (.cells #[Value.int .i64 a1, .int .i64 a2, .int .i64 a3] 3) rfl
  have HLy : Hid (Lay w _) := Lay.alloc HLy.out (.cells #[Value.int .i64 a1, .int .i64 a2, .int .i64 a3] 3)
  refine ⟨⟨Txt.Le.alloc _ _, HS.out _ (HM.out.take 2)⟩, ?_⟩
  refine Txt.tl_call Try.func63 (by kernel_rfl) (by kernel_rfl) (by rfl) (by rfl) (by rfl) (or_any _ _ 3 3 [a1, a2, a3] rfl (by decide) (int_cells (l := [a1, a2, a3]) (HM.out.get 2 rfl))) ?_
  rintro e w3 ⟨rfl, h3⟩
  replace h3 := h3.symm
  subst h3
  refine ⟨_, rfl, HS.out _ (HM.out.take 2), ?_⟩
  simp only [Act.put, List.setIfInBounds_toArray, List.set_cons_zero, List.set_cons_succ]
  (repeat (first | (refine Txt.tl_pure (v := ?_) (by rfl) ?_ ?_; rotate_left; (focus (intro _; go_simp; try with_reducible rfl)); simp only [Act.put, List.setIfInBounds_toArray, List.set_cons_zero, List.set_cons_succ]) | (refine Txt.tl_rowN (n := 32) (ty := 35) (by rfl) (by rfl) (by rfl) (rng_wu (HM.out.range 0 rfl)) (by kernel_rfl) (by rw [List.length_map]; exact x.hu) ?_; simp only [Act.put, List.setIfInBounds_toArray, List.set_cons_zero, List.set_cons_succ]) | (refine Txt.tl_rowN (n := 32) (ty := 35) (by rfl) (by rfl) (by rfl) (rng_wu (HM.out.range 1 rfl)) (by kernel_rfl) (by rw [List.length_map]; exact y.hu) ?_; simp only [Act.put, List.setIfInBounds_toArray, List.set_cons_zero, List.set_cons_succ]) | (refine Txt.tl_loadS (v := .string x.k) (by rfl) (by rfl) (by rfl) (by kernel_rfl) (fun _ h => rng_wk h.1) ?_; simp only [Act.put, List.setIfInBounds_toArray, List.set_cons_zero, List.set_cons_succ]) | (refine Txt.tl_loadS (v := .string y.k) (by rfl) (by rfl) (by rfl) (by kernel_rfl) (fun _ h => rng_wk h.2) ?_; simp only [Act.put, List.setIfInBounds_toArray, List.set_cons_zero, List.set_cons_succ]) | (refine Txt.tl_loadS (v := .string x.v) (by rfl) (by rfl) (by rfl) (by kernel_rfl) (fun _ h => rng_wv h.1) ?_; simp only [Act.put, List.setIfInBounds_toArray, List.set_cons_zero, List.set_cons_succ]) | (refine Txt.tl_loadS (v := .string y.v) (by rfl) (by rfl) (by rfl) (by kernel_rfl) (fun _ h => rng_wv h.2) ?_; simp only [Act.put, List.setIfInBounds_toArray, List.set_cons_zero, List.set_cons_succ])))
  refine Txt.tl_nil ?_
  go_wp2
  go_ret
  exact ⟨by rw [HO.out]; rfl, HLy.out⟩
end Mu
end Go.Proofs.Ytgpimeobkacniaa
