/-
  Plain law: the document's Behind and Order are the rows and the order.
-/
import Derived.Test.YtgpimeobkacniaaGreatSqV
set_option linter.unusedVariables false
set_option linter.unusedSimpArgs false
namespace Go.Proofs.YtgpimeobkacniaaGreat
open Go.RowKit
namespace Sq
open Mp
theorem dep_up {R : Wd → List Wd} : ∀ (n : Nat) (r : Wd), Dep R n r → Dep R (n + 1) r
  | 0, r, h => fun x hx => by rw [show R r = [] from h] at hx; cases hx
  | n + 1, r, h => fun x hx => dep_up n x (h x hx)
theorem flatMap_congr' {α β : Type} {f g : α → List β} : ∀ {l : List α}, (∀ x ∈ l, f x = g x) → l.flatMap f = l.flatMap g
  | [], _ => rfl
  | a :: l, h => by
    rw [List.flatMap_cons, List.flatMap_cons, h a List.mem_cons_self, flatMap_congr' (fun x hx => h x (List.mem_cons_of_mem _ hx))]
theorem sat {R : Wd → List Wd} : ∀ (n : Nat) (r : Wd), Dep R n r → pre R (n + 2) r = pre R (n + 1) r
  | 0, r, h => by simp only [pre, show R r = [] from h, List.flatMap_nil]
  | n + 1, r, h => by
    rw [pre, pre]
    exact flatMap_congr' fun x hx => by rw [sat n x (h x hx)]
/-- What is still to come, of a row. -/
def rest' (R : Wd → List Wd) (n : Nat) (row : List Wd) : List Wd := row.flatMap fun x => x :: pre R (n + 1) x
theorem rest_step {R : Wd → List Wd} {n : Nat} {x : Wd} {row : List Wd} (hx : Dep R n x) : rest' R n (x :: row) = x :: rest' R n (R x ++ row) := by
  unfold rest'
  rw [List.flatMap_cons, List.flatMap_append, List.cons_append, List.cons.injEq]
  refine ⟨rfl, ?_⟩
  congr 1
  rw [pre]
  refine flatMap_congr' fun y hy => ?_
  cases n with
  | zero => rw [show R x = [] from hx] at hy; cases hy
  | succ n => rw [sat n y (hx y hy)]
theorem dep_row {R : Wd → List Wd} {n : Nat} {x : Wd} {row : List Wd} (hx : Dep R n x) (hr : ∀ y ∈ row, Dep R n y) : ∀ y ∈ R x ++ row, Dep R n y := by
  intro y hy
  rcases List.mem_append.1 hy with hy | hy
  · cases n with
    | zero => rw [show R x = [] from hx] at hy; cases hy
    | succ n => exact dep_up n y (hx y hy)
  · exact hr y hy
end Sq
end Go.Proofs.YtgpimeobkacniaaGreat
