/-
  Entries: entry.of, petrelref14.has, in, Most.
-/
import Derived.Test.YtmnmemeldjbifaaTop2
import Derived.Test.YtmnmemeldjbifaaIds4
import Derived.Test.YtmnmemeldjbifaaWr
set_option linter.unusedVariables false
set_option linter.unusedSimpArgs false
namespace Go.Proofs.Ytmnmemeldjbifaa
open Go.RowKit
namespace En
open Oct Ids

/-- What a function answers whose first result is a struct, in a variable of its own. -/
theorem res_c2 {fn : Func} {p q : Tmp} {T : TypeId} {d : TypeDesc} (h : fn.results = #[.cell p T, .tmp q]) (hu : Try.prog.underlying T = some d) (hd : TypeDesc.isRow d = true) (tmps : Array Value) (w : World) (g : Nat) (cs : Array Value)
    (hi : (Try.prog.info? T).map (·.size) = some cs.size) (hp : tmps.getD p undef = .pointer (some ⟨g, 0, none⟩)) {fr : Nat × Nat} (hg : w.heap[g]? = some (.cells cs T fr)) (e : Value) (hq : tmps.getD q undef = e) :
    (results fn tmps).run Try.prog w = .ok (.tuple #[.agg cs, e]) w := by
  have hp' : tmps[p]?.getD undef = .pointer (some ⟨g, 0, none⟩) := by simpa using hp
  have hq' : tmps[q]?.getD undef = e := by simpa using hq
  simp [results, h, hp', hq', asAddr, run_loadVar_row w g _ _ cs fr _ hg hu (by cases d <;> first | rfl | cases hd) hi]
/-- What an entry of a kind holds: a topic, a commit, the most bytes of a body, may it be empty? -/
def pT (K : Int) : Bool := decide (K = 5 ∨ K = 6 ∨ K = 7)
def pC (K : Int) : Bool := decide (K = 4)
def pB (K : Int) : Int := if K = 7 then 1048512 else if K = 1 ∨ K = 2 then 256 else if K = 3 then 512 else 0
def pE (K : Int) : Bool := decide (K = 7)
set_option maxRecDepth 100000 in
theorem of_any (w : World) (K : Int) (hK : 1 ≤ K ∧ K ≤ 7) : Calls Try.prog 57 #[.int .i64 K] w fun e w' => e = .returned (.tuple #[.agg #[.bool (pT K), .bool (pC K), .int .i64 (pB K), .bool (pE K)], .bool true]) ∧ Keep (fun _ => False) w w' := by
  rcases (by omega : K = 1 ∨ K = 2 ∨ K = 3 ∨ K = 4 ∨ K = 5 ∨ K = 6 ∨ K = 7) with rfl | rfl | rfl | rfl | rfl | rfl | rfl
  all_goals
    clear hK
    go_enter Try.func57, Try.ntmps57
    go_wp2
    refine bodyPost_ret (res_c2 rfl Try.underlying91 rfl _ _ w.heap.size _ (by kernel_rfl) rfl (heap_a (heap_alloc_new w _)) _ rfl) rfl ?_
    exact ⟨rfl, ((Keep.refl _ _).alloc _).alloc _⟩
set_option maxRecDepth 100000 in
theorem of_none (w : World) (K : Int) (hK : K < 1 ∨ 7 < K) : Calls Try.prog 57 #[.int .i64 K] w fun e w' => e = .returned (.tuple #[.agg #[.bool false, .bool false, .int .i64 0, .bool false], .bool false]) ∧ Keep (fun _ => False) w w' := by
  have e1 : (K == 1) = false := by rw [beq_eq_false_iff_ne]; omega
  have e2 : (K == 2) = false := by rw [beq_eq_false_iff_ne]; omega
  have e3 : (K == 3) = false := by rw [beq_eq_false_iff_ne]; omega
  have e4 : (K == 4) = false := by rw [beq_eq_false_iff_ne]; omega
  have e5 : (K == 5) = false := by rw [beq_eq_false_iff_ne]; omega
  have e6 : (K == 6) = false := by rw [beq_eq_false_iff_ne]; omega
  have e7 : (K == 7) = false := by rw [beq_eq_false_iff_ne]; omega
  clear hK
  go_enter Try.func57, Try.ntmps57
  go_wp2
  refine bodyPost_ret (res_c2 rfl Try.underlying91 rfl _ _ w.heap.size _ (by kernel_rfl) rfl (heap_a (heap_alloc_new w _)) _ rfl) rfl ?_
  exact ⟨rfl, ((Keep.refl _ _).alloc _).alloc _⟩
/-- What the document says of it: letters. -/
def hs (K : Int) : ByteArray := if K = 1 ∨ K = 2 ∨ K = 3 then ⟨#[66]⟩ else if K = 4 then ⟨#[67]⟩ else if K = 5 ∨ K = 6 then ⟨#[84]⟩ else if K = 7 then ⟨#[84, 66]⟩ else ⟨#[]⟩
set_option maxRecDepth 100000 in
theorem has_any (w : World) (K : Int) (hK : 1 ≤ K ∧ K ≤ 7) : Calls Try.prog 58 #[.int .i64 K] w fun e w' => e = .returned (.string (hs K)) ∧ w' = w := by
  rcases (by omega : K = 1 ∨ K = 2 ∨ K = 3 ∨ K = 4 ∨ K = 5 ∨ K = 6 ∨ K = 7) with rfl | rfl | rfl | rfl | rfl | rfl | rfl
  all_goals
    clear hK
    go_enter Try.func58, Try.ntmps58
    go_wp2
    go_ret
    exact ⟨rfl, rfl⟩
set_option maxRecDepth 100000 in
theorem has_none (w : World) (K : Int) (hK : K < 1 ∨ 7 < K) : Calls Try.prog 58 #[.int .i64 K] w fun e w' => e = .returned (.string ⟨#[]⟩) ∧ w' = w := by
  have e1 : (K == 1) = false := by rw [beq_eq_false_iff_ne]; omega
  have e2 : (K == 2) = false := by rw [beq_eq_false_iff_ne]; omega
  have e3 : (K == 3) = false := by rw [beq_eq_false_iff_ne]; omega
  have e4 : (K == 4) = false := by rw [beq_eq_false_iff_ne]; omega
  have e5 : (K == 5) = false := by rw [beq_eq_false_iff_ne]; omega
  have e6 : (K == 6) = false := by rw [beq_eq_false_iff_ne]; omega
  have e7 : (K == 7) = false := by rw [beq_eq_false_iff_ne]; omega
  clear hK
  go_enter Try.func58, Try.ntmps58
  go_wp2
  go_ret
  exact ⟨rfl, rfl⟩
set_option maxRecDepth 100000 in
/-- Most bytes of a body. -/
theorem rmost_any (w : World) (K : Int) (hK : 1 ≤ K ∧ K ≤ 7) (v : Int) (hv : (if K = 3 then (512 : Int) else if K = 7 then 1048512 else 256) = v) : Calls Try.prog 62 #[.int .i64 K] w fun e w' => e = .returned (.int .i64 v) ∧ w' = w := by
  subst hv
  rcases (by omega : K = 1 ∨ K = 2 ∨ K = 3 ∨ K = 4 ∨ K = 5 ∨ K = 6 ∨ K = 7) with rfl | rfl | rfl | rfl | rfl | rfl | rfl
  all_goals
    clear hK
    go_enter Try.func62, Try.ntmps62
    go_wp2
    go_ret
    exact ⟨rfl, rfl⟩
set_option maxRecDepth 100000 in
theorem in_b (w : World) (c : Int) (hc : c = 66 ∨ c = 67 ∨ c = 84) : Calls Try.prog 59 #[.string ⟨#[66]⟩, .int .u8 c] w fun e w' => e = .returned (.bool (c == 66)) ∧ w' = w := by
  rcases hc with rfl | rfl | rfl
  all_goals
    go_enter Try.func59, Try.ntmps59
    go_wp2
    go_rounds 2
    go_ret
    exact ⟨rfl, rfl⟩
set_option maxRecDepth 100000 in
theorem in_c (w : World) (c : Int) (hc : c = 66 ∨ c = 67 ∨ c = 84) : Calls Try.prog 59 #[.string ⟨#[67]⟩, .int .u8 c] w fun e w' => e = .returned (.bool (c == 67)) ∧ w' = w := by
  rcases hc with rfl | rfl | rfl
  all_goals
    go_enter Try.func59, Try.ntmps59
    go_wp2
    go_rounds 2
    go_ret
    exact ⟨rfl, rfl⟩
set_option maxRecDepth 100000 in
theorem in_t (w : World) (c : Int) (hc : c = 66 ∨ c = 67 ∨ c = 84) : Calls Try.prog 59 #[.string ⟨#[84]⟩, .int .u8 c] w fun e w' => e = .returned (.bool (c == 84)) ∧ w' = w := by
  rcases hc with rfl | rfl | rfl
  all_goals
    go_enter Try.func59, Try.ntmps59
    go_wp2
    go_rounds 2
    go_ret
    exact ⟨rfl, rfl⟩
set_option maxRecDepth 100000 in
theorem in_tb (w : World) (c : Int) (hc : c = 66 ∨ c = 67 ∨ c = 84) : Calls Try.prog 59 #[.string ⟨#[84, 66]⟩, .int .u8 c] w fun e w' => e = .returned (.bool (c == 84 || c == 66)) ∧ w' = w := by
  rcases hc with rfl | rfl | rfl
  all_goals
    go_enter Try.func59, Try.ntmps59
    go_wp2
    go_rounds 3
    go_ret
    exact ⟨rfl, rfl⟩
/-- 'in', of what the document says of a kind. -/
def hsHas (K c : Int) : Bool := if c = 84 then pT K else if c = 67 then pC K else decide (0 < pB K)
theorem in_any (w : World) (K c : Int) (v : Bool) (hK : 1 ≤ K ∧ K ≤ 7) (hc : c = 66 ∨ c = 67 ∨ c = 84) (hv : hsHas K c = v) : Calls Try.prog 59 #[.string (hs K), .int .u8 c] w fun e w' => e = .returned (.bool v) ∧ w' = w := by
  subst hv
  rcases (by omega : K = 1 ∨ K = 2 ∨ K = 3 ∨ K = 4 ∨ K = 5 ∨ K = 6 ∨ K = 7) with rfl | rfl | rfl | rfl | rfl | rfl | rfl
  · exact (in_b w c hc).mono fun e w' h => by rcases hc with rfl | rfl | rfl <;> exact h
  · exact (in_b w c hc).mono fun e w' h => by rcases hc with rfl | rfl | rfl <;> exact h
  · exact (in_b w c hc).mono fun e w' h => by rcases hc with rfl | rfl | rfl <;> exact h
  · exact (in_c w c hc).mono fun e w' h => by rcases hc with rfl | rfl | rfl <;> exact h
  · exact (in_t w c hc).mono fun e w' h => by rcases hc with rfl | rfl | rfl <;> exact h
  · exact (in_t w c hc).mono fun e w' h => by rcases hc with rfl | rfl | rfl <;> exact h
  · exact (in_tb w c hc).mono fun e w' h => by rcases hc with rfl | rfl | rfl <;> exact h
end En
end Go.Proofs.Ytmnmemeldjbifaa
