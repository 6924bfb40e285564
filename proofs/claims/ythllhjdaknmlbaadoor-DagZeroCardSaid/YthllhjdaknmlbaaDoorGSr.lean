/-
  Ids: a row of one's own as the row that slices.SortFunc turns. Ids: a row of one's own: one stored, the tail cleared, cut. ident.Compare: by the bytes. Ids: rows appended to rows; slices.Clone, Grow, Concat. slices.Compact at a row of ids that does not fall.
-/
import Derived.Test.YthllhjdaknmlbaaDoorGId
import Derived.Test.YthllhjdaknmlbaaDoorGIl
import Derived.Shelf.SlSortCmp.WholeK
import Derived.Test.YthllhjdaknmlbaaDoorGMm
import Derived.Test.YthllhjdaknmlbaaDoorGTx
import Derived.Lib.BytesEntry
import Derived.Lib.Bytealg
import Derived.Laws.Externs
import Derived.Lib.SliceRun
set_option linter.unusedVariables false
set_option linter.unusedSimpArgs false

namespace Go.Proofs.YthllhjdaknmlbaaDoor
open Go.RowKit
/-- What a call leaves that only lays blocks and draws. -/
def Lay (w w' : World) : Prop := ∃ q os, w' = Go.Sort.grow (w.drewN q) os
theorem drewN_0 (w : World) : w.drewN 0 = w := by cases w; rfl
theorem Lay.refl (w : World) : Lay w w := ⟨0, #[], by rw [Go.Sort.grow_empty, drewN_0]⟩
theorem Lay.trans {w w' w'' : World} (h : Lay w w') (k : Lay w' w'') : Lay w w'' := by
  obtain ⟨q, os, rfl⟩ := h
  obtain ⟨q', os', rfl⟩ := k
  refine ⟨q + q', os ++ os', ?_⟩
  unfold Go.Sort.grow World.drewN
  simp [Array.append_assoc, Nat.add_assoc]
theorem Lay.alloc {w w' : World} (h : Lay w w') (o : Obj) : Lay w (w'.alloc o) := h.trans ⟨0, #[o], by rw [drewN_0, Go.Sort.alloc_eq_grow]⟩
theorem Lay.drew {w w' : World} (h : Lay w w') : Lay w w'.drew := h.trans ⟨1, #[], by rw [Go.Sort.grow_empty]; rfl⟩
theorem Lay.keep {w w' : World} (h : Lay w w') : Keep (fun _ => False) w w' := by
  obtain ⟨q, os, rfl⟩ := h
  refine ⟨rfl, rfl, rfl, by simp [Go.Sort.grow, World.drewN], fun k hk _ => ?_⟩
  show (w.heap ++ os)[k]? = w.heap[k]?
  rw [Array.getElem?_append_left hk]
namespace Ids
open Oct
/-- An id. -/
abbrev I32 := {x : List UInt8 // x.length = 32}
instance : Inhabited I32 := ⟨⟨List.replicate 32 0, by simp⟩⟩
def enc (x : I32) : List Value := x.1.map bv
theorem enc_len (x : I32) : (enc x).length = 32 := by unfold enc; rw [List.length_map, x.2]
theorem enc_one (x : I32) : ∀ v ∈ enc x, v.oneCell' = true := by
  intro v hv
  unfold enc at hv
  obtain ⟨u, _, rfl⟩ := List.mem_map.1 hv
  rfl
def mk (x : List UInt8) : I32 := if h : x.length = 32 then ⟨x, h⟩ else default
theorem mk_val {x : List UInt8} (h : x.length = 32) : (mk x).1 = x := by unfold mk; rw [dif_pos h]
/-- A row of ids as an array. -/
def arr (els : List (List UInt8)) : Array I32 := (els.map mk).toArray
theorem arr_size (els : List (List UInt8)) : (arr els).size = els.length := by simp [arr]
theorem arr_back {els : List (List UInt8)} (h : ∀ x ∈ els, x.length = 32) : (arr els).toList.map Subtype.val = els := by
  unfold arr
  rw [List.map_map]
  conv => rhs; rw [← List.map_id els]
  exact List.map_congr_left fun x hx => mk_val (h x hx)
/-- An array of ids as a row. -/
def back (d : Array I32) : List (List UInt8) := d.toList.map Subtype.val
theorem back_len (d : Array I32) : (back d).length = d.size := by simp [back]
theorem back_32 (d : Array I32) : ∀ x ∈ back d, x.length = 32 := by
  intro x hx
  obtain ⟨u, _, rfl⟩ := List.mem_map.1 hx
  exact u.2
theorem back_at (d : Array I32) (i : Nat) (hi : i < d.size) : (back d)[i]? = some (d[i]!).1 := by
  unfold back
  rw [List.getElem?_map, Array.getElem?_toList, Array.getElem?_eq_getElem hi, getElem!_pos d i hi]
  rfl
theorem flatK_back (d : Array I32) : (Go.Sort.flatK enc 32 d).toList = (back d).flatten.map bv := by
  have hl := flat_len (back d) (back_32 d)
  rw [back_len] at hl
  apply List.ext_getElem?
  intro t
  by_cases ht : t < d.size * 32
  · have h1 : t / 32 < d.size := by omega
    have e := flat_at (back d) (back_32 d) (t / 32) _ (back_at d (t / 32) h1) (t % 32) (Nat.mod_lt _ (by omega))
    rw [show t / 32 * 32 + t % 32 = t by omega] at e
    have h2 : t < (Go.Sort.flatK enc 32 d).size := by rw [Go.Sort.size_flatK]; exact ht
    have h3 := Go.Sort.get_flatK enc 32 d t ht
    rw [getElem!_pos (Go.Sort.flatK enc 32 d) t h2] at h3
    rw [Array.getElem?_toList, Array.getElem?_eq_getElem h2, h3, List.getElem?_map, e]
    have h4 : t % 32 < (d[t / 32]!).1.length := by rw [(d[t / 32]!).2]; exact Nat.mod_lt _ (by omega)
    have h5 : t % 32 < (enc (d[t / 32]!)).length := by rw [enc_len]; exact Nat.mod_lt _ (by omega)
    rw [List.getElem?_eq_getElem h4, getElem!_pos (enc (d[t / 32]!)) (t % 32) h5]
    simp [enc]
  · rw [Array.getElem?_toList, Array.getElem?_eq_none (by rw [Go.Sort.size_flatK]; omega), List.getElem?_eq_none (by rw [List.length_map, hl]; omega)]
theorem putCells_take (F cur : Array Value) (h : F.size ≤ cur.size) : (Go.Sort.putCells id 0 F cur).toList.take F.size = F.toList := by
  apply List.ext_getElem?
  intro i
  rw [List.getElem?_take]
  by_cases hi : i < F.size
  · rw [if_pos hi, Array.getElem?_toList, Array.getElem?_toList]
    unfold Go.Sort.putCells
    rw [Array.getElem?_mapIdx, Array.getElem?_eq_getElem (by omega), Option.map_some, if_pos ⟨Nat.zero_le _, by omega⟩, Nat.sub_zero, getElem!_pos F i hi, Array.getElem?_eq_getElem hi]
    rfl
  · rw [if_neg hi, Array.getElem?_toList, Array.getElem?_eq_none (by omega)]
section
variable {w : World} {g : Nat} {m : Nat} {d : Array I32} {os : Array Obj}
theorem sortWorld_at {cur : Array Value} {t : TypeId} {fr : Nat × Nat} (hg : w.heap[g]? = some (.cells cur t fr)) : (Go.Proofs.sortWorldK enc 32 w g 0 m d os).heap[g]? = some (.cells (Go.Sort.putCells id 0 (Go.Sort.flatK enc 32 d) cur) t fr) := by
  have hlt := lt_of_block hg
  show ((w.heap.modify g (Go.Sort.onCells (Go.Sort.putCells id 0 (Go.Sort.flatK enc 32 d)))) ++ os)[g]? = _
  rw [Array.getElem?_append_left (by simpa using hlt), Array.getElem?_modify, if_pos rfl, hg]
  rfl
theorem sortWorld_keep : Keep (fun k => k = g) w (Go.Proofs.sortWorldK enc 32 w g 0 m d os) := by
  refine ⟨rfl, rfl, rfl, ?_, fun k hk hn => ?_⟩
  · show w.heap.size ≤ ((w.heap.modify g (Go.Sort.onCells (Go.Sort.putCells id 0 (Go.Sort.flatK enc 32 d)))) ++ os).size
    simp
  · show ((w.heap.modify g (Go.Sort.onCells (Go.Sort.putCells id 0 (Go.Sort.flatK enc 32 d)))) ++ os)[k]? = _
    rw [Array.getElem?_append_left (by simpa using hk), Array.getElem?_modify, if_neg (fun e => hn e.symm)]
end
/-- A row of one's own, opened. -/
theorem Own.block {w : World} {g n c : Nat} {els : List (List UInt8)} (h : Own w (.slice (some ⟨g, 0, none⟩) n c) els) : n = els.length ∧ ∃ cur, w.heap[g]? = some (.cells cur 24 (0, 0)) ∧ n ≤ c ∧ c ≤ maxLen ∧ cur.size = c * 32 ∧ cur.toList.take (n * 32) = els.flatten.map bv := by
  obtain ⟨hl, h1 | ⟨g', cap, cur, e, _, hg, hn, hc, hsz, htk⟩⟩ := h.own
  · cases h1.1
  · cases e
    exact ⟨rfl, cur, hg, hn, hc, hsz, htk⟩
theorem Own.of {w : World} {g n c : Nat} {els : List (List UInt8)} {cur : Array Value} (he : n = els.length) (hs : ∀ x ∈ els, x.length = 32) (hg : w.heap[g]? = some (.cells cur 24 (0, 0))) (hn : n ≤ c) (hc : c ≤ maxLen) (hsz : cur.size = c * 32) (ht : cur.toList.take (n * 32) = els.flatten.map bv) : Own w (.slice (some ⟨g, 0, none⟩) n c) els := by
  subst he
  exact ⟨⟨by rw [List.length_map, flat_len els hs]; omega, .inr ⟨g, c, cur, rfl, Nat.zero_le _, hg, hn, hc, hsz, ht⟩⟩, hs⟩
theorem Own.holds {w : World} {g n c : Nat} {els : List (List UInt8)} (h : Own w (.slice (some ⟨g, 0, none⟩) n c) els) : Go.Sort.HoldsK enc 32 w g 0 (arr els) := by
  obtain ⟨hl, cur, hg, hn, hc, hsz, ht⟩ := h.block
  have hb : back (arr els) = els := arr_back h.size
  have hF := flatK_back (arr els)
  rw [hb, ← ht] at hF
  intro j hj
  have hj' : j < n * 32 := by rw [Go.Sort.size_flatK, arr_size] at hj; omega
  constructor
  · rw [cell_of hg, Nat.zero_add, ← Array.getElem?_toList]
    have e1 : (cur.toList.take (n * 32))[j]? = cur.toList[j]? := by rw [List.getElem?_take, if_pos hj']
    rw [← e1, ← hF, Array.getElem?_toList, Array.getElem?_eq_getElem hj, getElem!_pos _ j hj]
    rfl
  · exact free_of hg
theorem Own.sorted {w : World} {g n c : Nat} {els : List (List UInt8)} (h : Own w (.slice (some ⟨g, 0, none⟩) n c) els) (m : Nat) (os : Array Obj) (d : Array I32) (hd : d.size = n) : Own (Go.Proofs.sortWorldK enc 32 w g 0 m d os) (.slice (some ⟨g, 0, none⟩) n c) (back d) := by
  obtain ⟨hl, cur, hg, hn, hc, hsz, ht⟩ := h.block
  refine Own.of (by rw [back_len, hd]) (back_32 d) (sortWorld_at hg) hn hc ?_ ?_
  · unfold Go.Sort.putCells; simpa using hsz
  · have := putCells_take (Go.Sort.flatK enc 32 d) cur (by rw [Go.Sort.size_flatK, hd, hsz]; exact Nat.mul_le_mul_right _ hn)
    rw [Go.Sort.size_flatK, hd] at this
    rw [this, flatK_back]
/-- By the order of ids. -/
def cf (x y : I32) : Int := IdL.cmpL x.1 y.1
theorem swo : Go.Sort.SWO (Go.Proofs.ltOf cf) where
  irrefl x := by unfold ltOf cf; rw [IdL.cmpL_refl]; rfl
  trans x y z h1 h2 := by
    unfold ltOf cf at *
    exact decide_eq_true (IdL.cmpL_trans _ _ _ (of_decide_eq_true h1) (of_decide_eq_true h2))
  ntrans x y z h1 h2 := by
    unfold ltOf cf at *
    have a1 := of_decide_eq_false h1
    have a2 := of_decide_eq_false h2
    refine decide_eq_false fun h => ?_
    rcases IdL.cmpL_tri x.1 y.1 with e | e | e
    · exact a1 e
    · rw [e] at h; exact a2 h
    · exact a2 (IdL.cmpL_trans _ _ _ e h)
/-- What the sort leaves: the same ids, none smaller than one ahead of it. -/
theorem sorted_of {els : List (List UInt8)} (hs : ∀ x ∈ els, x.length = 32) {d : Array I32} (hp : Go.Sort.PermIn 0 (arr els).size (arr els) d) (ho : Go.Sort.SortedIn (Go.Proofs.ltOf cf) 0 (arr els).size d) :
    d.size = els.length ∧ (∀ x, x ∈ back d ↔ x ∈ els) ∧ ∀ (i j : Nat) (a b : List UInt8), i < j → (back d)[i]? = some a → (back d)[j]? = some b → ¬ IdL.cmpL b a < 0 := by
  obtain ⟨h1, _, h3⟩ := hp
  rw [arr_size] at h1
  have e1 : d.extract 0 (arr els).size = d := by rw [arr_size, ← h1]; simp
  have e2 : (arr els).extract 0 (arr els).size = arr els := by simp
  rw [e1, e2] at h3
  have h4 := h3.map Subtype.val
  rw [arr_back hs] at h4
  refine ⟨h1, fun x => h4.mem_iff, fun i j a b hij hi hj => ?_⟩
  have li := (List.getElem?_eq_some_iff.1 hi).1
  have lj := (List.getElem?_eq_some_iff.1 hj).1
  rw [back_len] at li lj
  have := ho i j (Nat.zero_le _) hij (by rw [arr_size]; omega)
  rw [back_at d i li] at hi
  rw [back_at d j lj] at hj
  cases hi
  cases hj
  exact of_decide_eq_false this
end Ids
end Go.Proofs.YthllhjdaknmlbaaDoor


namespace Go.Proofs.YthllhjdaknmlbaaDoor
open Go.RowKit
namespace Ids
open Oct
theorem tyId : St.Ty 24 32 z32 := ⟨⟨_, Tryd.underlying24, rfl⟩, by kernel_rfl, rfl⟩
theorem flat_takeN : ∀ (l : List (List UInt8)), (∀ x ∈ l, x.length = 32) → ∀ k, l.flatten.take (k * 32) = (l.take k).flatten
  | [], _, k => by simp
  | x :: l, h, 0 => by simp
  | x :: l, h, k + 1 => by
    have hx := h x (by simp)
    rw [List.take_succ_cons, List.flatten_cons, List.flatten_cons, ← flat_takeN l (fun y hy => h y (by simp [hy])) k, List.take_append, List.take_of_length_le (by rw [hx]; omega), hx, show (k + 1) * 32 - 32 = k * 32 by omega]
theorem flat_dropN : ∀ (l : List (List UInt8)), (∀ x ∈ l, x.length = 32) → ∀ k, l.flatten.drop (k * 32) = (l.drop k).flatten
  | [], _, k => by simp
  | x :: l, h, 0 => by simp
  | x :: l, h, k + 1 => by
    have hx := h x (by simp)
    rw [List.drop_succ_cons, List.flatten_cons, ← flat_dropN l (fun y hy => h y (by simp [hy])) k, List.drop_append, List.drop_of_length_le (by rw [hx]; omega), hx, show (k + 1) * 32 - 32 = k * 32 by omega, List.nil_append]
theorem Own.cut {w : World} {g n c : Nat} {els : List (List UInt8)} (h : Own w (.slice (some ⟨g, 0, none⟩) n c) els) {k : Nat} (hk : k ≤ n) : Own w (.slice (some ⟨g, 0, none⟩) k c) (els.take k) := by
  obtain ⟨hl, cur, hg, hn, hc, hsz, ht⟩ := h.block
  refine Own.of (by rw [List.length_take]; omega) (fun x hx => h.size x (List.mem_of_mem_take hx)) hg (by omega) hc hsz ?_
  rw [← flat_takeN els h.size k, List.map_take, ← ht, List.take_take, Nat.min_eq_left (by omega)]
theorem Own.set_list {els : List (List UInt8)} (hs : ∀ x ∈ els, x.length = 32) {cur : List Value} {n k : Nat} (hn : n = els.length) (hk : k < n) (hc : n * 32 ≤ cur.length) (ht : cur.take (n * 32) = els.flatten.map bv) {x : List UInt8} (hx : x.length = 32) :
    (cur.take (k * 32) ++ x.map bv ++ cur.drop (k * 32 + 32)).take (n * 32) = (els.set k x).flatten.map bv := by
  have e1 : cur.take (k * 32) = (els.take k).flatten.map bv := by
    rw [← flat_takeN els hs k, List.map_take, ← ht, List.take_take, Nat.min_eq_left (by omega)]
  have e2 : (cur.drop (k * 32 + 32)).take (n * 32 - (k * 32 + 32)) = (els.drop (k + 1)).flatten.map bv := by
    rw [← flat_dropN els hs (k + 1), List.map_drop, ← ht, show (k + 1) * 32 = k * 32 + 32 by omega, List.drop_take]
  have l1 : (cur.take (k * 32)).length = k * 32 := by rw [List.length_take]; omega
  have l2 : (cur.take (k * 32) ++ x.map bv).length = k * 32 + 32 := by rw [List.length_append, l1, List.length_map, hx]
  rw [List.take_append, List.take_of_length_le (by rw [l2]; omega), l2, e2, e1, List.set_eq_take_append_cons_drop, if_pos (by omega), List.flatten_append, List.flatten_cons, List.map_append, List.map_append, List.append_assoc]
section
variable {ops : Array Oper} {rest : List Oper} {o : Oper} {a : Act} {w : World} {K : Act → World → Prop} {Q : Exit → Act → World → Prop}
/-- 's[k] = id' in a row of one's own. -/
theorem wp_set {x y : Operand} (ho : o.op = .store 24 x y) (hd : o.dst = none) {g n c k : Nat} {els : List (List UInt8)} (hown : Own w (.slice (some ⟨g, 0, none⟩) n c) els) (hx : a.eval x = .pointer (some ⟨g, k * 32, none⟩)) (hk : k < n) {l : List UInt8} (hl : l.length = 32) (hy : a.eval y = idv l)
    (h : ∀ w', Own w' (.slice (some ⟨g, 0, none⟩) n c) (els.set k l) → Keep (fun b => b = g) w w' → K a w') : o.wp Tryd.prog a w K Q := by
  obtain ⟨hn, cur, hg, hnc, hc, hsz, ht⟩ := hown.block
  have hcl : n * 32 ≤ cur.toList.length := by rw [Array.length_toList, hsz]; exact Nat.mul_le_mul_right _ hnc
  refine St.wp_storeMid tyId ho hd hx hy (by simp [hl]) (one_bv l) hg (by omega) rfl (h _ ?_ ((Keep.refl _ _).setRow g _ (fun _ => rfl)))
  refine Own.of (by rw [List.length_set]; exact hn) (fun z hz => ?_) (setRow_heap w g _ _ _ _ hg) hnc hc ?_ ?_
  · rcases List.mem_or_eq_of_mem_set hz with e | e
    · exact hown.size z e
    · rw [e]; exact hl
  · simp [hl]; rw [Array.length_toList, hsz] at hcl; omega
  · exact Own.set_list hown.size hn hk hcl ht hl
theorem wl_set (hgd : o.guard = none) {x y : Operand} (ho : o.op = .store 24 x y) (hd : o.dst = none) {g n c k : Nat} {els : List (List UInt8)} (hown : Own w (.slice (some ⟨g, 0, none⟩) n c) els) (hx : a.eval x = .pointer (some ⟨g, k * 32, none⟩)) (hk : k < n) {l : List UInt8} (hl : l.length = 32) (hy : a.eval y = idv l)
    (h : ∀ w', Own w' (.slice (some ⟨g, 0, none⟩) n c) (els.set k l) → Keep (fun b => b = g) w w' → wpList Tryd.prog ops Q rest a w') : wpList Tryd.prog ops Q (o :: rest) a w :=
  wpList_plain hgd fun _ hK => wp_set ho hd hown hx hk hl hy fun w' h1 h2 => hK _ _ (h w' h1 h2)
theorem zeroCells_len (m : Nat) : (Builtin.zeroCells z32 m).toList.length = m * 32 := by
  unfold Builtin.zeroCells
  simp
theorem zeroCells_one (m : Nat) : ∀ v ∈ (Builtin.zeroCells z32 m).toList, v.oneCell' = true := by
  intro v hv
  unfold Builtin.zeroCells at hv
  simp only [Array.toList_map, List.mem_map] at hv
  obtain ⟨i, _, rfl⟩ := hv
  have h1 : i % z32.size < z32.size := Nat.mod_lt _ (by decide)
  rw [getElem!_pos z32 _ h1]
  exact (Array.all_eq_true_iff_forall_mem.1 (one_bv (List.replicate 32 0))) _ (Array.getElem_mem h1)
/-- 'clear(s[k:])' in a row of one's own. -/
theorem run_clear {g n c k m c' : Nat} {els : List (List UInt8)} (hown : Own w (.slice (some ⟨g, 0, none⟩) n c) els) (hk : k + m = n) :
    ∃ w', (∀ ty, (Builtin.clear_ #[22] ty #[.slice (some ⟨g, k * 32, none⟩) m c']).run Tryd.prog w = .ok (.tuple #[]) w') ∧ Own w' (.slice (some ⟨g, 0, none⟩) k c) (els.take k) ∧ Keep (fun b => b = g) w w' := by
  obtain ⟨hn, cur, hg, hnc, hc, hsz, ht⟩ := hown.block
  cases m with
  | zero => exact ⟨w, fun ty => by simp [Builtin.clear_, run_underlying Tryd.underlying22], hown.cut (by omega), Keep.refl _ _⟩
  | succ m =>
    have hcl : n * 32 ≤ cur.size := by rw [hsz]; exact Nat.mul_le_mul_right _ hnc
    have hst := run_storeCells_at Tryd.prog g (k * 32) 24 (Builtin.zeroCells z32 (m + 1)).toList 0 cur w hg (by rw [zeroCells_len]; omega) (zeroCells_one _)
    simp only [Nat.add_zero] at hst
    have hz := tyId.zero w
    have hrun : ∀ ty, (Builtin.clear_ #[22] ty #[.slice (some ⟨g, k * 32, none⟩) (m + 1) c']).run Tryd.prog w = .ok (.tuple #[]) (w.setRow g (cur.toList.take (k * 32) ++ (Builtin.zeroCells z32 (m + 1)).toList ++ cur.toList.drop (k * 32 + (Builtin.zeroCells z32 (m + 1)).toList.length)).toArray) := fun ty => by
      simp [Builtin.clear_, run_underlying Tryd.underlying22, hz, Value.cells, hst]
    refine ⟨_, hrun, ?_, (Keep.refl _ _).setRow g _ (fun _ => rfl)⟩
    have h2 := hown.cut (k := k) (by omega)
    obtain ⟨_, cur', hg', _, _, _, ht'⟩ := h2.block
    rw [hg] at hg'
    cases hg'
    refine Own.of (by rw [List.length_take]; omega) h2.size (setRow_heap w g _ _ _ _ hg) (by omega) hc ?_ ?_
    · have e := zeroCells_len (m + 1)
      simp only [List.size_toArray, List.length_append, List.length_take, List.length_drop, Array.length_toList, e]
      omega
    · rw [List.append_assoc, List.take_append, List.take_take, Nat.min_self, List.length_take, Array.length_toList, Nat.min_eq_left (by omega), Nat.sub_self, List.take_zero, List.append_nil, ht']
end
end Ids
end Go.Proofs.YthllhjdaknmlbaaDoor


namespace Go.Proofs.YthllhjdaknmlbaaDoor
open Go.RowKit
namespace Ids
open Oct
theorem cmpB : ∀ (a b : List UInt8), Lib.compareBytes a b = IdL.cmpL a b
  | [], [] => rfl
  | [], _ :: _ => rfl
  | _ :: _, [] => rfl
  | x :: xs, y :: ys => by
    unfold Lib.compareBytes IdL.cmpL
    rw [cmpB xs ys]
    simp only [UInt8.lt_iff_toNat_lt]
theorem bytesOf_nat (x : List UInt8) : Lib.bytesOf (x.map fun u => (u.toNat : Int)) = x := by
  unfold Lib.bytesOf
  rw [List.map_map]
  conv => rhs; rw [← List.map_id x]
  apply List.map_congr_left
  intro u _
  simp
theorem run_load (w : World) (b o c : Nat) (x : List UInt8) (hx : x.length = 32) (hr : w.rangeAt b o (x.map bv)) : (Extern.Bytes.bytesOf (.slice (some ⟨b, o, none⟩) 32 c)).run Tryd.prog w = .ok ⟨x.toArray⟩ w := by
  have := Lib.run_loadBytesX (P := Tryd.prog) (w := w) (x.map fun u => (u.toNat : Int)) ⟨b, o, none⟩ .empty (fun j v hj => by
    rw [Addr.add_mid]
    refine hr j _ ?_
    rw [List.getElem?_map] at hj ⊢
    cases hu : x[j]? with
    | none => rw [hu] at hj; cases hj
    | some u => rw [hu] at hj; cases hj; rfl)
  rw [List.length_map, hx, bytesOf_nat] at this
  have he : (⟨ByteArray.empty.data ++ x.toArray⟩ : ByteArray) = ⟨x.toArray⟩ := by
    apply ByteArray.ext
    show (#[] : Array UInt8) ++ x.toArray = x.toArray
    simp
  rw [he] at this
  exact this
theorem run_cmp (w : World) (b1 o1 c1 b2 o2 c2 : Nat) (x y : List UInt8) (hx : x.length = 32) (hy : y.length = 32) (h1 : w.rangeAt b1 o1 (x.map bv)) (h2 : w.rangeAt b2 o2 (y.map bv)) :
    (Extern.BytealgCompare.compare #[.slice (some ⟨b1, o1, none⟩) 32 c1, .slice (some ⟨b2, o2, none⟩) 32 c2]).run Tryd.prog w = .ok (.int .i64 (IdL.cmpL x y)) w := by
  change Sem.run Tryd.prog (do pure (goInt (Extern.BytealgCompare.cmp (← Extern.Bytes.bytesOf (.slice (some ⟨b1, o1, none⟩) 32 c1)) (← Extern.Bytes.bytesOf (.slice (some ⟨b2, o2, none⟩) 32 c2))))) w = _
  simp only [Sem.run_bind, run_load w b1 o1 c1 x hx h1, run_load w b2 o2 c2 y hy h2, Result.andThen_ok, Sem.run_pure, Lib.cmp_eq, cmpB]
  rfl
set_option maxRecDepth 100000 in
set_option maxHeartbeats 1000000 in
theorem bytes_compare (w : World) (b1 o1 c1 b2 o2 c2 : Nat) (x y : List UInt8) (hx : x.length = 32) (hy : y.length = 32) (h1 : w.rangeAt b1 o1 (x.map bv)) (h2 : w.rangeAt b2 o2 (y.map bv)) :
    Calls Tryd.prog 80 #[.slice (some ⟨b1, o1, none⟩) 32 c1, .slice (some ⟨b2, o2, none⟩) 32 c2] w fun e w' => e = .returned (.int .i64 (IdL.cmpL x y)) ∧ w' = w := by
  have hc := run_cmp w b1 o1 c1 b2 o2 c2 x y hx hy h1 h2
  clear h1 h2
  go_enter Tryd.func80, Tryd.ntmps80
  go_wp2
  rw [run_callFunc_extern Tryd.func86 (by kernel_rfl) (by kernel_rfl) (by kernel_rfl) (e := Extern.BytealgCompare.compare) (by kernel_rfl), hc]
  simp only [Result.andThen]
  rw [Oper.upon_value]
  go_wp2
  go_ret
  exact ⟨rfl, rfl⟩
set_option maxRecDepth 100000 in
set_option maxHeartbeats 2000000 in
theorem compare_any (w : World) (x y : List UInt8) (hx : x.length = 32) (hy : y.length = 32) : Calls Tryd.prog 57 #[idv x, idv y] w fun e w' => e = .returned (.int .i64 (IdL.cmpL x y)) ∧ Lay w w' := by
  have hcmp : ∀ w, Sem.run Tryd.prog (binOp .eql 24 (idv x) (idv y)) w = .ok (.bool (x == y)) w := fun w => eql_id w x y hx hy
  have hgd := guard_id
  have r1 : Hid (((w.alloc (.cells (x.map bv).toArray 24)).alloc (.cells (y.map bv).toArray 24)).rangeAt w.heap.size 0 (x.map bv)) := fun j v hj => by
    rw [Nat.zero_add, cell_of (heap_a (heap_alloc_new w _))]; simpa using hj
  have r2 : Hid (((w.alloc (.cells (x.map bv).toArray 24)).alloc (.cells (y.map bv).toArray 24)).rangeAt (w.heap.size + 1) 0 (y.map bv)) := fun j v hj => by
    have := heap_alloc_new (w.alloc (.cells (x.map bv).toArray 24)) (.cells (y.map bv).toArray 24)
    have e : (w.alloc (.cells (x.map bv).toArray 24)).heap.size = w.heap.size + 1 := by simp
    rw [e] at this
    rw [Nat.zero_add, cell_of this]; simpa using hj
  have LY : Hid (Lay w ((w.alloc (.cells (x.map bv).toArray 24)).alloc (.cells (y.map bv).toArray 24))) := ((Lay.refl w).alloc _).alloc _
  have Lx : Hid (x.length = 32) := hx
  have Ly : Hid (y.length = 32) := hy
  clear hx hy
  by_cases he : x = y
  · have HE : Hid _ := he
    have heb : (x == y) = true := by simpa using he
    rw [heb] at hcmp
    clear he heb
    go_enter Tryd.func57, Tryd.ntmps57
    go_wp2_with (first | (refine wl_load rfl rfl rfl Lx.out r1.out ?_; simp only [Act.put, List.setIfInBounds_toArray, List.set_cons_zero, List.set_cons_succ]) | (refine wl_load rfl rfl rfl Ly.out r2.out ?_; simp only [Act.put, List.setIfInBounds_toArray, List.set_cons_zero, List.set_cons_succ]))
    go_ret
    exact ⟨by rw [HE.out, IdL.cmpL_refl]; rfl, LY.out⟩
  · have HE : Hid _ := he
    have heb : (x == y) = false := by simpa using he
    rw [heb] at hcmp
    clear he heb
    go_enter Tryd.func57, Tryd.ntmps57
    go_wp2_with (first | (refine wl_load rfl rfl rfl Lx.out r1.out ?_; simp only [Act.put, List.setIfInBounds_toArray, List.set_cons_zero, List.set_cons_succ]) | (refine wl_load rfl rfl rfl Ly.out r2.out ?_; simp only [Act.put, List.setIfInBounds_toArray, List.set_cons_zero, List.set_cons_succ]))
    refine Txt.wp_region_text (fun _ => True) [0, 0, 4, 0] (by kernel_rfl) (by kernel_rfl) trivial ?_
    (repeat (first | (refine Txt.tl_pure (v := ?_) (by rfl) ?_ ?_; rotate_left; (focus (intro _; go_simp; try with_reducible rfl)); simp only [Act.put, List.setIfInBounds_toArray, List.set_cons_zero, List.set_cons_succ]) | (refine Txt.tl_skip (by rfl) (by first | trivial | exact HS.out) ?_; simp only [Act.put, List.setIfInBounds_toArray, List.set_cons_zero, List.set_cons_succ]) | (refine Txt.tl_load (v := ?_) (by rfl) (by rfl) (by rfl) (by kernel_rfl) ?_ ?_; rotate_left; (focus (first | assumption | (go_simp; done) | (go_simp; with_reducible rfl))); simp only [Act.put, List.setIfInBounds_toArray, List.set_cons_zero, List.set_cons_succ]) | (refine Txt.tl_loadB (v := ?_) (by rfl) (by rfl) (by rfl) (by kernel_rfl) ?_ ?_; rotate_left; (focus assumption); simp only [Act.put, List.setIfInBounds_toArray, List.set_cons_zero, List.set_cons_succ])))
    refine Txt.tl_call Tryd.func80 (by kernel_rfl) (by kernel_rfl) (by rfl) (by rfl) (by rfl) (bytes_compare _ _ 0 32 _ 0 32 x y Lx.out Ly.out (show (World.drew _).rangeAt w.heap.size 0 (x.map bv) from r1.out) (show (World.drew _).rangeAt (w.heap.size + 1) 0 (y.map bv) from r2.out)) ?_
    rintro e w' ⟨rfl, rfl⟩
    refine ⟨_, rfl, trivial, ?_⟩
    simp only [Act.put, List.setIfInBounds_toArray, List.set_cons_zero, List.set_cons_succ]
    (repeat (first | (refine Txt.tl_pure (v := ?_) (by rfl) ?_ ?_; rotate_left; (focus (intro _; go_simp; try with_reducible rfl)); simp only [Act.put, List.setIfInBounds_toArray, List.set_cons_zero, List.set_cons_succ]) | (refine Txt.tl_skip (by rfl) (by first | trivial | exact HS.out) ?_; simp only [Act.put, List.setIfInBounds_toArray, List.set_cons_zero, List.set_cons_succ]) | (refine Txt.tl_load (v := ?_) (by rfl) (by rfl) (by rfl) (by kernel_rfl) ?_ ?_; rotate_left; (focus (first | assumption | (go_simp; done) | (go_simp; with_reducible rfl))); simp only [Act.put, List.setIfInBounds_toArray, List.set_cons_zero, List.set_cons_succ]) | (refine Txt.tl_loadB (v := ?_) (by rfl) (by rfl) (by rfl) (by kernel_rfl) ?_ ?_; rotate_left; (focus assumption); simp only [Act.put, List.setIfInBounds_toArray, List.set_cons_zero, List.set_cons_succ])))
    refine Txt.tl_nil ?_
    go_wp2
    go_ret
    exact ⟨rfl, LY.out.drew⟩
end Ids
end Go.Proofs.YthllhjdaknmlbaaDoor


namespace Go.Proofs.YthllhjdaknmlbaaDoor
open Go.RowKit
namespace Ids
open Oct
/-- What a row yields that is appended. -/
theorem At.src {w : World} {a : Option Addr} {n : Nat} {els : List (List UInt8)} (h : At w a n els) (c : Nat) : Src Tryd.prog 32 22 (.slice a n c) n (els.flatten.map bv) w := by
  have hl : (els.flatten.map bv).length = n * 32 := by rw [List.length_map, flat_len els h.size, h.len]; omega
  have h1 : ∀ u ∈ els.flatten.map bv, u.oneCell' = true := by
    intro u hu
    obtain ⟨x, _, rfl⟩ := List.mem_map.1 hu
    rfl
  rcases h.lay with hn | ⟨b, off, rfl, hb, hr⟩
  · subst hn
    have he : els = [] := List.eq_nil_of_length_eq_zero h.len
    subst he
    cases a with
    | none => exact Src.ofNil w Tryd.underlying22 c
    | some ad => exact Src.ofSlice w Tryd.underlying22 ad 0 c [] rfl (fun j u hj => by simp at hj) (by simp)
  · refine Src.ofSlice w Tryd.underlying22 ⟨b, off, none⟩ n c _ hl (fun j u hj => ?_) h1
    have hj' : j < n * 32 := by rw [← hl]; exact (List.getElem?_eq_some_iff.1 hj).1
    have hi : j / 32 < els.length := by rw [h.len]; omega
    have hx := List.getElem?_eq_getElem hi
    have e := flat_at els h.size (j / 32) _ hx (j % 32) (Nat.mod_lt _ (by omega))
    rw [show j / 32 * 32 + j % 32 = j by omega] at e
    rw [List.getElem?_map, e, ← List.getElem?_map] at hj
    have := hr (j / 32) _ hx (j % 32) u hj
    rw [Addr.add_mid]
    rwa [show off + j / 32 * 32 + j % 32 = off + j by omega] at this
section
variable {ops : Array Oper} {rest : List Oper} {o : Oper} {a : Act} {w : World} {K : Act → World → Prop} {Q : Exit → Act → World → Prop}
/-- 'append(s, m...)'. -/
theorem wp_appR {s x : Operand} (ho : o.op = .call { callee := .builtin .append, args := #[s, x], argTypes := #[22, 22] }) {v : Value} {els : List (List UInt8)} (hs : a.eval s = v) (hown : Own w v els)
    {ad : Option Addr} {n c : Nat} {new : List (List UInt8)} (hx : a.eval x = .slice ad n c) (hat : At w ad n new) (hm : els.length + n ≤ 1000000)
    (h : ∀ v' w', Own w' v' (els ++ new) → Keep (fun k => v.ownBlock = some k) w w' → (v'.ownBlock = v.ownBlock ∨ v'.ownBlock = some w.heap.size) → K (a.put o.dst v') w') : o.wp Tryd.prog a w K Q := by
  refine wp_app_src slId ho (xs := els.flatten.map bv) (v := v) (n := els.length) hs hown.own hx (hat.src c) (by unfold maxLen; omega) (by omega) ?_
  intro v' w' hA
  refine h v' w' ⟨?_, ?_⟩ hA.keep hA.at_
  · have e := hA.own
    rw [← List.map_append] at e
    simpa [hat.len] using e
  · intro y hy
    rcases List.mem_append.1 hy with hy | hy
    · exact hown.size y hy
    · exact hat.size y hy
theorem wl_appR (hgd : o.guard = none) {s x : Operand} (ho : o.op = .call { callee := .builtin .append, args := #[s, x], argTypes := #[22, 22] }) {v : Value} {els : List (List UInt8)} (hs : a.eval s = v) (hown : Own w v els)
    {ad : Option Addr} {n c : Nat} {new : List (List UInt8)} (hx : a.eval x = .slice ad n c) (hat : At w ad n new) (hm : els.length + n ≤ 1000000)
    (h : ∀ v' w', Own w' v' (els ++ new) → Keep (fun k => v.ownBlock = some k) w w' → (v'.ownBlock = v.ownBlock ∨ v'.ownBlock = some w.heap.size) → wpList Tryd.prog ops Q rest (a.put o.dst v') w') : wpList Tryd.prog ops Q (o :: rest) a w :=
  wpList_plain hgd fun _ hK => wp_appR ho hs hown hx hat hm fun v' w' h1 h2 h3 => hK _ _ (h v' w' h1 h2 h3)
theorem run_build0 (w : World) : (Instr.buildSlice 22 0 #[]).run Tryd.prog w = .ok (.slice (some ⟨w.heap.size, 0, none⟩) 0 0) (w.alloc (.cells #[] 24)) := by
  obtain ⟨i, hi, hz, hs, _⟩ := slId.info
  simp [Instr.buildSlice, run_underlying Tryd.underlying22, sizeOf, typeInfo, hi, Instr.fill, newRow]
  exact congrArg (fun z => w.alloc (Obj.cells z 24)) (by simp)
/-- '[]api.Id{}'. -/
theorem wl_build0 (hgd : o.guard = none) (ho : o.op = .buildSlice 22 0 #[]) (h : Own (w.alloc (.cells #[] 24)) (.slice (some ⟨w.heap.size, 0, none⟩) 0 0) [] → wpList Tryd.prog ops Q rest (a.put o.dst (.slice (some ⟨w.heap.size, 0, none⟩) 0 0)) (w.alloc (.cells #[] 24))) : wpList Tryd.prog ops Q (o :: rest) a w :=
  wpList_plain hgd fun K hK => by
    unfold Oper.wp execOp
    simp only [ho, Sem.run_bind, List.map_toArray, List.map_nil, Array.map_empty, run_build0 w, Result.andThen_ok]
    exact hK _ _ (h (Own.of rfl (by simp) (heap_alloc_new w _) (Nat.le_refl _) (by unfold maxLen; omega) rfl rfl))
end
/-- A row that is new: nobody's that was there. -/
def New (w w' : World) (v : Value) (els : List (List UInt8)) : Prop := Own w' v els ∧ Keep (fun _ => False) w w' ∧ ∀ k, v.ownBlock = some k → w.heap.size ≤ k
set_option maxRecDepth 100000 in
set_option maxHeartbeats 1000000 in
theorem clone_any (w : World) (a : Option Addr) (n c : Nat) (els : List (List UInt8)) (h : At w a n els) (hm : n ≤ 1000000) :
    Calls Tryd.prog 25 #[.slice a n c] w fun e w' => ∃ v, e = .returned v ∧ New w w' v els := by
  have H : Hid _ := h
  clear h
  cases a with
  | none =>
    have hnil : ∀ (n' c' : Nat) (w : World), Sem.run Tryd.prog (binOp .eql 22 (.slice none n' c') (.slice none 0 0)) w = .ok (.bool true) w := fun n' c' w => Lib.run_eql_slice_nil w _ _ _ _ _ _ _ Tryd.underlying22
    have hn : n = 0 := by rcases H.out.lay with e | ⟨_, _, e, _⟩; exact e; cases e
    subst hn
    have he : els = [] := List.eq_nil_of_length_eq_zero H.out.len
    subst he
    go_enter Tryd.func25, Tryd.ntmps25
    go_wp2
    go_ret
    exact ⟨_, rfl, Own.nil w, Keep.refl _ _, fun k hk => by simp [Value.ownBlock] at hk⟩
  | some ad =>
    have hnil : ∀ (w : World), Sem.run Tryd.prog (binOp .eql 22 (.slice (some ad) n c) (.slice none 0 0)) w = .ok (.bool false) w := fun w => Lib.run_eql_slice_nil w _ _ _ _ _ _ _ Tryd.underlying22
    go_enter Tryd.func25, Tryd.ntmps25
    go_wp2_with (first | (refine wl_build0 rfl rfl ?_; intro h0; have H0 : Hid _ := h0; clear h0; simp only [Act.put, List.setIfInBounds_toArray, List.set_cons_zero, List.set_cons_succ]) | (refine wl_appR rfl rfl rfl H0.out rfl (H.out.calm ((Keep.refl _ _).alloc _)) (by simp; omega) ?_; intro v' w1 h1 h2 h3; have H1 : Hid _ := h1; have K1 : Hid _ := h2; have A1 : Hid _ := h3; clear h1 h2 h3; simp only [Act.put, List.setIfInBounds_toArray, List.set_cons_zero, List.set_cons_succ]))
    go_ret
    refine ⟨_, rfl, H1.out, ((Keep.refl (fun _ => False) w).alloc (.cells #[] 24)).trans' K1.out (fun _ _ h => h) (fun k hk e => ?_), fun k hk => ?_⟩
    · have e' : w.heap.size = k := Option.some.inj e
      omega
    · have hk' : v'.ownBlock = some k := hk
      rcases A1.out with e | e
      · have e' : w.heap.size = k := Option.some.inj (e.symm.trans hk')
        omega
      · have e' := Option.some.inj (e.symm.trans hk')
        simp at e'
        omega
end Ids
end Go.Proofs.YthllhjdaknmlbaaDoor


namespace Go.Proofs.YthllhjdaknmlbaaDoor
open Go.RowKit
namespace Ids
open Oct
theorem Own.range {w : World} {g n c : Nat} {els : List (List UInt8)} (h : Own w (.slice (some ⟨g, 0, none⟩) n c) els) {i : Nat} {x : List UInt8} (hi : els[i]? = some x) : w.rangeAt g (i * 32) (x.map bv) := by
  obtain ⟨a, c', e, hat, _⟩ := h.at
  cases e
  rcases hat.lay with h0 | ⟨b, off, e, _, hr⟩
  · rw [h0] at h
    have := (List.getElem?_eq_some_iff.1 hi).1
    omega
  · cases e
    have := hr i x hi
    rwa [Nat.zero_add] at this
end Ids
end Go.Proofs.YthllhjdaknmlbaaDoor
