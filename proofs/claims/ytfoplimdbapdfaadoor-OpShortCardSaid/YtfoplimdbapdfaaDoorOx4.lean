/-
  petrelref07: has, in.
-/
import Derived.Test.YtfoplimdbapdfaaDoorOx2
set_option linter.unusedVariables false
set_option linter.unusedSimpArgs false
namespace Go.Proofs.YtfoplimdbapdfaaDoor
open Go.RowKit
namespace Ox
open Oct Ids

/-- What the document says of a kind: letters. -/
def hs (K : Int) : ByteArray := if K = 1 then ⟨#[78]⟩ else if K = 2 then ⟨#[86]⟩ else if K = 3 then ⟨#[86, 83]⟩ else if K = 4 then ⟨#[75, 86, 78]⟩ else if K = 5 then ⟨#[75, 86, 83]⟩ else if K = 6 then ⟨#[82, 86]⟩ else if K = 7 then ⟨#[82]⟩ else ⟨#[]⟩
set_option maxRecDepth 100000 in
theorem has_any (w : World) (K : Int) (hK : 1 ≤ K ∧ K ≤ 7) : Calls Tryd.prog 43 #[.int .i64 K] w fun e w' => e = .returned (.string (hs K)) ∧ w' = w := by
  rcases (by omega : K = 1 ∨ K = 2 ∨ K = 3 ∨ K = 4 ∨ K = 5 ∨ K = 6 ∨ K = 7) with rfl | rfl | rfl | rfl | rfl | rfl | rfl
  all_goals
    clear hK
    go_enter Tryd.func43, Tryd.ntmps43
    go_wp2
    go_ret
    exact ⟨rfl, rfl⟩
set_option maxRecDepth 100000 in
theorem has_none (w : World) (K : Int) (hK : K < 1 ∨ 7 < K) : Calls Tryd.prog 43 #[.int .i64 K] w fun e w' => e = .returned (.string ⟨#[]⟩) ∧ w' = w := by
  have e1 : (K == 1) = false := by rw [beq_eq_false_iff_ne]; omega
  have e2 : (K == 2) = false := by rw [beq_eq_false_iff_ne]; omega
  have e3 : (K == 3) = false := by rw [beq_eq_false_iff_ne]; omega
  have e4 : (K == 4) = false := by rw [beq_eq_false_iff_ne]; omega
  have e5 : (K == 5) = false := by rw [beq_eq_false_iff_ne]; omega
  have e6 : (K == 6) = false := by rw [beq_eq_false_iff_ne]; omega
  have e7 : (K == 7) = false := by rw [beq_eq_false_iff_ne]; omega
  clear hK
  go_enter Tryd.func43, Tryd.ntmps43
  go_wp2
  go_ret
  exact ⟨rfl, rfl⟩
/-- Has a kind a part? -/
def hp (K c : Int) : Bool := if c = 78 then iN K else if c = 75 then iK K else if c = 86 then iV K else if c = 82 then iR K else iS K
set_option maxRecDepth 100000 in
theorem in_1 (w : World) (c : Int) (hc : c = 78 ∨ c = 75 ∨ c = 86 ∨ c = 82 ∨ c = 83) : Calls Tryd.prog 59 #[.string ⟨#[78]⟩, .int .u8 c] w fun e w' => e = .returned (.bool (hp 1 c)) ∧ w' = w := by
  rcases hc with rfl | rfl | rfl | rfl | rfl
  all_goals
    go_enter Tryd.func59, Tryd.ntmps59
    go_wp2
    go_rounds 2
    go_ret
    exact ⟨rfl, rfl⟩
set_option maxRecDepth 100000 in
theorem in_2 (w : World) (c : Int) (hc : c = 78 ∨ c = 75 ∨ c = 86 ∨ c = 82 ∨ c = 83) : Calls Tryd.prog 59 #[.string ⟨#[86]⟩, .int .u8 c] w fun e w' => e = .returned (.bool (hp 2 c)) ∧ w' = w := by
  rcases hc with rfl | rfl | rfl | rfl | rfl
  all_goals
    go_enter Tryd.func59, Tryd.ntmps59
    go_wp2
    go_rounds 2
    go_ret
    exact ⟨rfl, rfl⟩
set_option maxRecDepth 100000 in
theorem in_3 (w : World) (c : Int) (hc : c = 78 ∨ c = 75 ∨ c = 86 ∨ c = 82 ∨ c = 83) : Calls Tryd.prog 59 #[.string ⟨#[86, 83]⟩, .int .u8 c] w fun e w' => e = .returned (.bool (hp 3 c)) ∧ w' = w := by
  rcases hc with rfl | rfl | rfl | rfl | rfl
  all_goals
    go_enter Tryd.func59, Tryd.ntmps59
    go_wp2
    go_rounds 3
    go_ret
    exact ⟨rfl, rfl⟩
set_option maxRecDepth 100000 in
theorem in_4 (w : World) (c : Int) (hc : c = 78 ∨ c = 75 ∨ c = 86 ∨ c = 82 ∨ c = 83) : Calls Tryd.prog 59 #[.string ⟨#[75, 86, 78]⟩, .int .u8 c] w fun e w' => e = .returned (.bool (hp 4 c)) ∧ w' = w := by
  rcases hc with rfl | rfl | rfl | rfl | rfl
  all_goals
    go_enter Tryd.func59, Tryd.ntmps59
    go_wp2
    go_rounds 4
    go_ret
    exact ⟨rfl, rfl⟩
set_option maxRecDepth 100000 in
theorem in_5 (w : World) (c : Int) (hc : c = 78 ∨ c = 75 ∨ c = 86 ∨ c = 82 ∨ c = 83) : Calls Tryd.prog 59 #[.string ⟨#[75, 86, 83]⟩, .int .u8 c] w fun e w' => e = .returned (.bool (hp 5 c)) ∧ w' = w := by
  rcases hc with rfl | rfl | rfl | rfl | rfl
  all_goals
    go_enter Tryd.func59, Tryd.ntmps59
    go_wp2
    go_rounds 4
    go_ret
    exact ⟨rfl, rfl⟩
set_option maxRecDepth 100000 in
theorem in_6 (w : World) (c : Int) (hc : c = 78 ∨ c = 75 ∨ c = 86 ∨ c = 82 ∨ c = 83) : Calls Tryd.prog 59 #[.string ⟨#[82, 86]⟩, .int .u8 c] w fun e w' => e = .returned (.bool (hp 6 c)) ∧ w' = w := by
  rcases hc with rfl | rfl | rfl | rfl | rfl
  all_goals
    go_enter Tryd.func59, Tryd.ntmps59
    go_wp2
    go_rounds 3
    go_ret
    exact ⟨rfl, rfl⟩
set_option maxRecDepth 100000 in
theorem in_7 (w : World) (c : Int) (hc : c = 78 ∨ c = 75 ∨ c = 86 ∨ c = 82 ∨ c = 83) : Calls Tryd.prog 59 #[.string ⟨#[82]⟩, .int .u8 c] w fun e w' => e = .returned (.bool (hp 7 c)) ∧ w' = w := by
  rcases hc with rfl | rfl | rfl | rfl | rfl
  all_goals
    go_enter Tryd.func59, Tryd.ntmps59
    go_wp2
    go_rounds 2
    go_ret
    exact ⟨rfl, rfl⟩
theorem in_any (w : World) (K c : Int) (v : Bool) (hK : 1 ≤ K ∧ K ≤ 7) (hc : c = 78 ∨ c = 75 ∨ c = 86 ∨ c = 82 ∨ c = 83) (hv : hp K c = v) : Calls Tryd.prog 59 #[.string (hs K), .int .u8 c] w fun e w' => e = .returned (.bool v) ∧ w' = w := by
  subst hv
  rcases (by omega : K = 1 ∨ K = 2 ∨ K = 3 ∨ K = 4 ∨ K = 5 ∨ K = 6 ∨ K = 7) with rfl | rfl | rfl | rfl | rfl | rfl | rfl
  · exact in_1 w c hc
  · exact in_2 w c hc
  · exact in_3 w c hc
  · exact in_4 w c hc
  · exact in_5 w c hc
  · exact in_6 w c hc
  · exact in_7 w c hc
end Ox
end Go.Proofs.YtfoplimdbapdfaaDoor
