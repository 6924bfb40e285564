/-
  Plain law: the document's Behind by steps, its Order as a loop, its List; what both sides have alike of the ids that are gone; both sides' bytes.
-/
import Derived.Test.YtgpimeobkacniaaGreatSqO
set_option linter.unusedVariables false
set_option linter.unusedSimpArgs false
namespace Go.Proofs.YtgpimeobkacniaaGreat
open Go.RowKit
namespace Sq
open Mp
theorem rest_len (R : Wd → List Wd) (n : Nat) : ∀ row : List Wd, row.length ≤ (rest' R n row).length
  | [] => Nat.zero_le _
  | x :: row => by
    have := rest_len R n row
    unfold rest' at this ⊢
    rw [List.flatMap_cons, List.length_append, List.length_cons, List.length_cons]
    omega
/-- What is gone, alike on both sides. -/
structure Gon (G G' : List Wd) : Prop where
  srt : IdL.Srt G'
  mem : ∀ u, u ∈ G' ↔ u ∈ G
  nd : G.Nodup
theorem Gon.nil : Gon [] [] := ⟨List.Pairwise.nil, fun _ => Iff.rfl, List.nodup_nil⟩
theorem Gon.len {G G' : List Wd} (h : Gon G G') : G'.length = G.length :=
  Nat.le_antisymm (nodup_len (IdL.srt_nodup h.srt) fun y hy => (h.mem y).1 hy) (nodup_len h.nd fun y hy => (h.mem y).2 hy)
theorem Gon.set {G G' K : List Wd} (h : Gon G G') (hK : ∀ u, u ∈ K ↔ u ∈ G) : IdL.setL K = G' := (IdL.setL_of h.srt fun u => by rw [h.mem, hK]).symm
theorem flat_takeW {G : List Wd} {k : Nat} {u : Wd} (hu : G[k]? = some u) : (G.take (k + 1)).flatten = (G.take k).flatten ++ u := by
  rw [List.take_add_one, hu, List.flatten_append]
  simp
end Sq
end Go.Proofs.YtgpimeobkacniaaGreat
