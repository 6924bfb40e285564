/-
  Rows of structs of one's own, as the rows that slices.SortFunc turns.
-/
import Derived.Test.YtgpimeobkacniaaGSt
import Derived.Test.YtgpimeobkacniaaRows5
set_option linter.unusedVariables false
set_option linter.unusedSimpArgs false
namespace Go.Proofs.Ytgpimeobkacniaa
open Go.RowKit
namespace St
set_option linter.unusedSectionVars false
variable {α : Type} [Inhabited α] {n : Nat} {enc : α → List Value} {T : TypeId}
theorem flatK_list (hE : Enc n enc) (d : Array α) : (Go.Sort.flatK enc n d).toList = d.toList.flatMap enc := by
  have hl : (d.toList.flatMap enc).length = d.size * n := by rw [hE.flat, Array.length_toList]
  apply List.ext_getElem?
  intro t
  by_cases ht : t < d.size * n
  · have hn : 0 < n := by
      rcases Nat.eq_zero_or_pos n with h | h
      · subst h; simp at ht
      · exact h
    have h1 : t / n < d.size := (Nat.div_lt_iff_lt_mul hn).2 ht
    have h6 : t % n < n := Nat.mod_lt _ hn
    have e := flat_at enc d.toList (fun x _ => hE.len x) (t / n) (d[t / n]!) (by rw [Array.getElem?_toList, Array.getElem?_eq_getElem h1, getElem!_pos d _ h1]) (t % n) h6
    rw [show t / n * n + t % n = t by rw [Nat.mul_comm]; exact Nat.div_add_mod t n] at e
    have h2 : t < (Go.Sort.flatK enc n d).size := by rw [Go.Sort.size_flatK]; exact ht
    have h3 := Go.Sort.get_flatK enc n d t ht
    rw [getElem!_pos (Go.Sort.flatK enc n d) t h2] at h3
    have h5 : t % n < (enc (d[t / n]!)).length := by rw [hE.len]; exact h6
    rw [Array.getElem?_toList, Array.getElem?_eq_getElem h2, h3, e, List.getElem?_eq_getElem h5, getElem!_pos (enc (d[t / n]!)) (t % n) h5]
  · rw [Array.getElem?_toList, Array.getElem?_eq_none (by rw [Go.Sort.size_flatK]; omega), List.getElem?_eq_none (by rw [hl]; omega)]
section
variable {w : World} {g : Nat} {m : Nat} {d : Array α} {os : Array Obj}
theorem sortWorld_at {cur : Array Value} {t : TypeId} {fr : Nat × Nat} (hg : w.heap[g]? = some (.cells cur t fr)) : (Go.Proofs.sortWorldK enc n w g 0 m d os).heap[g]? = some (.cells (Go.Sort.putCells id 0 (Go.Sort.flatK enc n d) cur) t fr) := by
  have hlt := lt_of_block hg
  show ((w.heap.modify g (Go.Sort.onCells (Go.Sort.putCells id 0 (Go.Sort.flatK enc n d)))) ++ os)[g]? = _
  rw [Array.getElem?_append_left (by simpa using hlt), Array.getElem?_modify, if_pos rfl, hg]
  rfl
theorem sortWorld_keep : Keep (fun k => k = g) w (Go.Proofs.sortWorldK enc n w g 0 m d os) := by
  refine ⟨rfl, rfl, rfl, ?_, fun k hk hn => ?_⟩
  · show w.heap.size ≤ ((w.heap.modify g (Go.Sort.onCells (Go.Sort.putCells id 0 (Go.Sort.flatK enc n d)))) ++ os).size
    simp
  · show ((w.heap.modify g (Go.Sort.onCells (Go.Sort.putCells id 0 (Go.Sort.flatK enc n d)))) ++ os)[k]? = _
    rw [Array.getElem?_append_left (by simpa using hk), Array.getElem?_modify, if_neg (fun e => hn e.symm)]
end
theorem Own.holds {w : World} {g k c : Nat} {els : List α} (hE : Enc n enc) (h : Own T n enc w (.slice (some ⟨g, 0, none⟩) k c) els) : Go.Sort.HoldsK enc n w g 0 els.toArray := by
  obtain ⟨hl, cur, hg, hn, hc, hsz, ht⟩ := h.block
  have hF := flatK_list hE els.toArray
  rw [List.toList_toArray, ← ht] at hF
  intro j hj
  have hj' : j < k * n := by rw [Go.Sort.size_flatK, List.size_toArray, ← hl] at hj; exact hj
  constructor
  · rw [cell_of hg, Nat.zero_add, ← Array.getElem?_toList]
    have e1 : (cur.toList.take (k * n))[j]? = cur.toList[j]? := by rw [List.getElem?_take, if_pos hj']
    rw [← e1, ← hF, Array.getElem?_toList, Array.getElem?_eq_getElem hj, getElem!_pos _ j hj]
    rfl
  · exact free_of hg
theorem Own.sorted {w : World} {g k c : Nat} {els : List α} (hE : Enc n enc) (h : Own T n enc w (.slice (some ⟨g, 0, none⟩) k c) els) (m : Nat) (os : Array Obj) (d : Array α) (hd : d.size = k) : Own T n enc (Go.Proofs.sortWorldK enc n w g 0 m d os) (.slice (some ⟨g, 0, none⟩) k c) d.toList := by
  obtain ⟨hl, cur, hg, hn, hc, hsz, ht⟩ := h.block
  have hd' : k = d.toList.length := by rw [Array.length_toList, hd]
  subst hd'
  refine Own.of hE (sortWorld_at hg) hn hc ?_ ?_
  · unfold Go.Sort.putCells; simpa using hsz
  · have := Ids.putCells_take (Go.Sort.flatK enc n d) cur (by rw [Go.Sort.size_flatK, hsz, hd]; exact Nat.mul_le_mul_right _ hn)
    rw [Go.Sort.size_flatK, hd] at this
    rw [this, flatK_list hE]
/-- What the sort leaves: the same ones, none smaller than one ahead of it. -/
theorem sorted_of {cf : α → α → Int} {els : List α} {d : Array α} (hp : Go.Sort.PermIn 0 els.toArray.size els.toArray d) (ho : Go.Sort.SortedIn (Go.Proofs.ltOf cf) 0 els.toArray.size d) :
    d.size = els.length ∧ d.toList.Perm els ∧ ∀ (i j : Nat) (a b : α), i < j → d.toList[i]? = some a → d.toList[j]? = some b → ¬ cf b a < 0 := by
  obtain ⟨h1, _, h3⟩ := hp
  have hz : d.size = els.length := by simpa using h1
  have e1 : d.extract 0 els.toArray.size = d := by rw [List.size_toArray, ← hz]; simp
  have e2 : els.toArray.extract 0 els.toArray.size = els.toArray := by simp
  rw [e1, e2] at h3
  refine ⟨hz, by simpa using h3, fun i j a b hij hi hj => ?_⟩
  have li := (List.getElem?_eq_some_iff.1 hi).1
  have lj := (List.getElem?_eq_some_iff.1 hj).1
  rw [Array.length_toList] at li lj
  have := ho i j (Nat.zero_le _) hij (by rw [List.size_toArray]; omega)
  rw [Array.getElem?_toList, Array.getElem?_eq_getElem li] at hi
  rw [Array.getElem?_toList, Array.getElem?_eq_getElem lj] at hj
  cases hi
  cases hj
  rw [getElem!_pos d i li, getElem!_pos d j lj] at this
  exact of_decide_eq_false this
/-- None smaller than one ahead of it, and no two alike: each smaller than the next. -/
theorem strict_of {r : α → α → Prop} {l : List α} (hn : l.Nodup) (h3 : ∀ a b, r a b ∨ a = b ∨ r b a) (h : ∀ (i j : Nat) (a b : α), i < j → l[i]? = some a → l[j]? = some b → ¬ r b a) : l.Pairwise r := by
  rw [List.pairwise_iff_getElem]
  intro i j hi hj hij
  have h1 := h i j _ _ hij (List.getElem?_eq_getElem hi) (List.getElem?_eq_getElem hj)
  rcases h3 l[i] l[j] with h2 | h2 | h2
  · exact h2
  · exact absurd h2 ((List.pairwise_iff_getElem.1 hn) i j hi hj hij)
  · exact absurd h2 h1
theorem Own.form {w : World} {v : Value} {els : List α} (h : Own T n enc w v els) : (v = .slice none 0 0 ∧ els = []) ∨ ∃ g c, v = .slice (some ⟨g, 0, none⟩) els.length c := by
  rcases h.own.2 with ⟨rfl, h0⟩ | ⟨g, cap, cur, rfl, _⟩
  · exact .inl ⟨rfl, List.eq_nil_of_length_eq_zero h0⟩
  · exact .inr ⟨g, cap, rfl⟩
end St
end Go.Proofs.Ytgpimeobkacniaa
