/-
  Plain law: the document's Behind by steps, its Order as a loop, its List; what both sides have alike of the ids that are gone; both sides' bytes.
-/
import Derived.Test.YtgpimeobkacniaaSqO
set_option linter.unusedVariables false
set_option linter.unusedSimpArgs false
namespace Go.Proofs.Ytgpimeobkacniaa
open Go.RowKit
namespace Sq
open Mp
theorem cutE {p : Dn → Bool} : ∀ {l : List Dn} {k : Nat}, k ≤ l.length → (∀ j y, j < k → l[j]? = some y → p y = true) → (∀ y, l[k]? = some y → p y = false) → l.takeWhile p = l.take k ∧ l.dropWhile p = l.drop k
  | [], k, hk, _, _ => by simp at hk; simp [hk]
  | a :: l, 0, _, _, h2 => by
    have := h2 a rfl
    simp [this]
  | a :: l, k + 1, hk, h1, h2 => by
    have ha := h1 0 a (by omega) rfl
    obtain ⟨i1, i2⟩ := cutE (l := l) (k := k) (by simpa using hk) (fun j y hj hy => h1 (j + 1) y (by omega) hy) (fun y hy => h2 y hy)
    simp [ha, i1, i2]
theorem insB_at {out : List Dn} {n : Dn} {k : Nat} (hk : k ≤ out.length) (h1 : ∀ j y, j < k → out[j]? = some y → ah n.x.h n.u y.x.h y.u = true) (h2 : ∀ y, out[k]? = some y → ah n.x.h n.u y.x.h y.u = false) : insB out n = out.take k ++ [n] ++ out.drop k := by
  obtain ⟨e1, e2⟩ := cutE (p := fun y => ah n.x.h n.u y.x.h y.u) hk h1 h2
  unfold insB
  rw [e1, e2]
  simp
theorem beh_in {X : List Dn} {k : Nat} {y : Dn} (hy : X[k]? = some y) {r : Wd} (h : y.x.r = r) : behD (X.take (k + 1)) r = insB (behD (X.take k) r) y := by
  rw [List.take_add_one, hy, Option.toList_some, behD_snoc, if_pos h]
theorem beh_out {X : List Dn} {k : Nat} {y : Dn} (hy : X[k]? = some y) {r : Wd} (h : y.x.r ≠ r) : behD (X.take (k + 1)) r = behD (X.take k) r := by
  rw [List.take_add_one, hy, Option.toList_some, behD_snoc, if_neg h]
theorem insB_len (out : List Dn) (n : Dn) : (insB out n).length = out.length + 1 := by
  unfold insB
  rw [List.length_append, List.length_cons, ← Nat.add_assoc, ← List.length_append, List.takeWhile_append_dropWhile]
theorem beh_len (r : Wd) : ∀ (n : Nat) (X : List Dn), X.length = n → (behD X r).length ≤ n
  | 0, X, h => by rw [List.eq_nil_of_length_eq_zero h]; exact Nat.zero_le _
  | n + 1, X, h => by
    obtain ⟨Y, z, rfl⟩ : ∃ Y z, X = Y ++ [z] := by
      rcases List.eq_nil_or_concat X with h' | ⟨Y, z, h'⟩
      · rw [h'] at h; cases h
      · exact ⟨Y, z, by rw [h']; try simp⟩
    have ih := beh_len r n Y (by simpa using h)
    rw [behD_snoc]
    split
    · rw [insB_len]; omega
    · omega
/-- The document's order, under way: what is out, and the row that is left. -/
structure OrdI (X : List Dn) (N : Nds) (B : Bhs) (P R : List Dn) : Prop where
  all : P.map (·.u) ++ rest' (rowsB B) N.length (R.map (·.u)) = ordr N B
  dep : ∀ y ∈ R.map (·.u), Dep (rowsB B) N.length y
  sub : ∀ d ∈ P ++ R, d ∈ X
theorem OrdI.start {X : List Dn} {N : Nds} {B : Bhs} (hi : Inv N B) (ha : Alk X N) : OrdI X N B [] (behD X Zi) := by
  refine ⟨?_, fun y hy => ?_, fun d hd => ((mem_beh Zi d X.length X rfl).1 hd).1⟩
  · rw [beh_row hi ha, ord_rest hi]
    rfl
  · rw [beh_row hi ha] at hy
    exact row_dep hi y hy
theorem OrdI.step {X : List Dn} {N : Nds} {B : Bhs} (hi : Inv N B) (ha : Alk X N) {P R : List Dn} {d : Dn} (h : OrdI X N B P (d :: R)) : OrdI X N B (P ++ [d]) (behD X d.u ++ R) := by
  have hd := h.dep d.u (by simp)
  refine ⟨?_, ?_, fun e he => ?_⟩
  · rw [← h.all, List.map_cons, rest_step hd, List.map_append, List.map_append, beh_row hi ha]
    simp
  · rw [List.map_append, beh_row hi ha]
    exact dep_row hd (fun y hy => h.dep y (by rw [List.map_cons]; exact List.mem_cons_of_mem _ hy))
  · simp only [List.mem_append, List.mem_singleton] at he
    rcases he with (he | he) | he | he
    · exact h.sub e (by simp [he])
    · exact h.sub e (by simp [he])
    · exact ((mem_beh d.u e X.length X rfl).1 he).1
    · exact h.sub e (by simp [he])
theorem rest_len (R : Wd → List Wd) (n : Nat) : ∀ row : List Wd, row.length ≤ (rest' R n row).length
  | [] => Nat.zero_le _
  | x :: row => by
    have := rest_len R n row
    unfold rest' at this ⊢
    rw [List.flatMap_cons, List.length_append, List.length_cons, List.length_cons]
    omega
theorem OrdI.len {X : List Dn} {N : Nds} {B : Bhs} (hi : Inv N B) {P R : List Dn} (h : OrdI X N B P R) : P.length + R.length ≤ N.length := by
  have h1 := congrArg List.length h.all
  have h2 := rest_len (rowsB B) N.length (R.map (·.u))
  have h3 := hi.pre_len (N.length + 1)
  rw [List.length_append, List.length_map] at h1
  rw [List.length_map] at h2
  unfold ordr at h1
  omega
/-- The document's order. -/
structure OrdD (X : List Dn) (N : Nds) (B : Bhs) (O : List Dn) : Prop where
  eq : O.map (·.u) = ordr N B
  sub : ∀ d ∈ O, d ∈ X
theorem OrdI.stop {X : List Dn} {N : Nds} {B : Bhs} {P : List Dn} (h : OrdI X N B P []) : OrdD X N B P := by
  refine ⟨?_, fun d hd => h.sub d (by simpa using hd)⟩
  rw [← h.all]
  show _ = P.map (·.u) ++ []
  simp
theorem OrdD.len {X : List Dn} {N : Nds} {B : Bhs} (hi : Inv N B) {O : List Dn} (h : OrdD X N B O) : O.length ≤ N.length := by
  have h1 := congrArg List.length h.eq
  rw [List.length_map] at h1
  rw [h1]
  exact hi.pre_len _
/-- The values that the document sees. -/
def lstD (G : List Wd) (O : List Dn) : List ByteArray := (O.filter fun d => decide (d.u ∉ G)).map fun d : Dn => d.x.v
theorem lstD_in {G : List Wd} {O : List Dn} {k : Nat} {x : Dn} (hx : O[k]? = some x) (h : x.u ∈ G) : lstD G (O.take (k + 1)) = lstD G (O.take k) := by
  unfold lstD
  rw [List.take_add_one, hx, List.filter_append]
  simp [h]
theorem lstD_out {G : List Wd} {O : List Dn} {k : Nat} {x : Dn} (hx : O[k]? = some x) (h : x.u ∉ G) : lstD G (O.take (k + 1)) = lstD G (O.take k) ++ [x.x.v] := by
  unfold lstD
  rw [List.take_add_one, hx, List.filter_append, List.map_append]
  simp [h]
theorem lstD_len {G : List Wd} {O : List Dn} (k : Nat) : (lstD G (O.take k)).length ≤ k := by
  unfold lstD
  rw [List.length_map]
  exact Nat.le_trans (List.length_filter_le _ _) (List.length_take_le _ _)
/-- What is gone, alike on both sides. -/
structure Gon (G G' : List Wd) : Prop where
  srt : IdL.Srt G'
  mem : ∀ u, u ∈ G' ↔ u ∈ G
  nd : G.Nodup
theorem Gon.nil : Gon [] [] := ⟨List.Pairwise.nil, fun _ => Iff.rfl, List.nodup_nil⟩
theorem Gon.len {G G' : List Wd} (h : Gon G G') : G'.length = G.length :=
  Nat.le_antisymm (nodup_len (IdL.srt_nodup h.srt) fun y hy => (h.mem y).1 hy) (nodup_len h.nd fun y hy => (h.mem y).2 hy)
theorem Gon.set {G G' K : List Wd} (h : Gon G G') (hK : ∀ u, u ∈ K ↔ u ∈ G) : IdL.setL K = G' := (IdL.setL_of h.srt fun u => by rw [h.mem, hK]).symm
theorem Alk.set {X : List Dn} {N : Nds} (h : Alk X N) {K : List Wd} (hK : ∀ u, u ∈ K ↔ u ∈ N.map (·.1)) : IdL.setL K = X.map (·.u) := (IdL.setL_of h.srt fun u => by rw [h.keys, hK]).symm
theorem putB_take {X : List Dn} {k : Nat} {d : Dn} (hd : X[k]? = some d) : (X.take (k + 1)).flatMap nodeB = (X.take k).flatMap nodeB ++ nodeB d := by
  rw [List.take_add_one, hd, List.flatMap_append]
  simp
theorem flat_takeW {G : List Wd} {k : Nat} {u : Wd} (hu : G[k]? = some u) : (G.take (k + 1)).flatten = (G.take k).flatten ++ u := by
  rw [List.take_add_one, hu, List.flatten_append]
  simp
end Sq
end Go.Proofs.Ytgpimeobkacniaa
