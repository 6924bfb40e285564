/-
  fetch: what FetchRound's walk needs: a row of ints, an id of a number, a turn of a score.
-/
import Derived.Test.YtgllkfolckbdhaaFeQ
import Derived.Test.YtgllkfolckbdhaaFeR
set_option linter.unusedVariables false
set_option linter.unusedSimpArgs false
namespace Go.Proofs.Ytgllkfolckbdhaa
open Go.RowKit
namespace Fe
open Oct Ids Mp
open Mem (M It blk ids rows)
abbrev trV (tr : List Nat) : Array Value := (tr.map fun m : Nat => Value.int .i64 (m : Int)).toArray
abbrev trO (tr : List Nat) : Obj := .cells (trV tr) 3
theorem made_int (n : Nat) : (madeCells (Value.int .i64 0).cells (n * 1)).toList = (List.replicate n (0 : Nat)).map fun m : Nat => Value.int .i64 (m : Int) := by
  apply List.ext_getElem
  · simp [madeCells]
  · intro i h1 h2
    simp [madeCells, Value.cells, Nat.mod_one]
section
variable {ops : Array Oper} {rest : List Oper} {o : Oper} {a : Act} {w : World} {Q : Exit → Act → World → Prop}
/-- 'make([]int, n)'. -/
theorem wl_mkInt (hgd : o.guard = none) {l c : Operand} (ho : o.op = .makeSlice 35 l c) {n : Nat} (hl : a.eval l = .int .i64 (n : Int)) (hc : a.eval c = .int .i64 (n : Int)) (hn : n ≤ 1000) {b : Nat} (hb : w.heap.size = b)
    (h : ∀ w', w'.heap[b]? = some (trO (List.replicate n 0)) → Keep (fun _ => False) w w' → wpList Try.prog ops Q rest (a.put o.dst (.slice (some ⟨b, 0, none⟩) n n)) w') : wpList Try.prog ops Q (o :: rest) a w := by
  subst hb
  obtain ⟨i, hi, hz, hs, hby⟩ := slInt.info
  refine wpList_make_full w hgd l c 35 ho 0 3 i (.int .i64 0) 1 slInt.und hi hz hs .i64 .i64 n n n hl hc rfl rfl (by rw [hby]; omega) (by unfold maxLen; omega) (Nat.zero_le _) ?_
  intro w' h1 h2
  rw [made_int] at h1
  obtain ⟨_, h3⟩ := h1
  rcases h3 with ⟨e, _⟩ | ⟨g, cap, cur, e, _, hg, _, _, hsz, ht⟩
  · cases e
  · cases e
    refine h w' ?_ ((Keep.refl _ w).grown h2 (fun k hk => by cases hk))
    rw [hg]
    have e1 : cur.toList.take (n * 1) = cur.toList := List.take_of_length_le (by rw [Array.length_toList, hsz]; exact Nat.le_refl _)
    rw [e1] at ht
    have e2 : cur = trV (List.replicate n 0) := by apply Array.toList_inj.1; rw [ht]
    rw [e2]
end
theorem trV_get {tr : List Nat} {i : Nat} (h : i < tr.length) : (trV tr)[i]? = some (.int .i64 ((tr.getD i 0 : Nat) : Int)) := by
  rw [List.getElem?_toArray, List.getElem?_map, List.getElem?_eq_getElem h, List.getD_eq_getElem?_getD, List.getElem?_eq_getElem h]
  rfl
theorem trV_set (tr : List Nat) (i m : Nat) : (trV tr).setIfInBounds i (.int .i64 (m : Int)) = trV (tr.set i m) := by
  rw [List.setIfInBounds_toArray]
  exact congrArg List.toArray List.map_set.symm
theorem built_id (c : UInt8) : Try.prog.built 32 [(0, .int .u8 (c.toNat : Int))] = some ((c :: List.replicate 31 0).map bv).toArray := by kernel_rfl
theorem byte_N : ∀ k : Nat, k < 12 → IntKind.u8.wrap ((k : Int) + 1) = ((UInt8.ofNat (k + 1)).toNat : Int) := by decide +kernel
theorem byte_N2 : ∀ k : Nat, k < 12 → ((UInt8.ofNat (k + 1)).toNat : Int) = (k : Int) + 1 := by decide +kernel
theorem shl_N : ∀ p : Nat, p < 6 → IntKind.i64.wrap (2 ^ min (IntKind.u64.wrap (p : Int)).toNat 64) = ((2 ^ p : Nat) : Int) := by decide +kernel
theorem full_N : ∀ p : Nat, p < 6 → IntKind.i64.wrap (63 - ((2 ^ p : Nat) : Int)) = ((full p : Nat) : Int) := by decide +kernel
theorem ne_full : ∀ p : Nat, p < 6 → (((full p : Nat) : Int) != wrap64 (63 - wrap64 (2 ^ p))) = false := by decide +kernel
theorem sub_lt : ∀ sf : Nat, sf < 6 → ∀ m : Nat, Sb m (full sf) → m < 64 := by
  intro sf hs m h
  have h1 : full sf < 64 := by unfold full; exact Nat.lt_of_le_of_lt (Nat.sub_le _ _) (by decide)
  unfold Sb at h
  have h2 : m ≤ m ||| full sf := Nat.left_le_or
  omega
/-- A turn of a score, as the whole sees it. -/
theorem FTo.turn {w w' : World} {b b2 : Nat} {lv hv : Value} {L : List Fd} {H : List Wd} {at_ : Int} {S S' : List Int} {sf : Int} (h : FAt w b b2 lv hv L H at_ S sf) (hb : w'.heap[b2]? = some (bc S' sf)) (k : Keep (fun k => k = b2) w w') : FTo w w' b b2 lv hv lv hv L H at_ S' sf :=
  FTo.of (upB h.all 3 rfl hb k)
/-- The first round of all. -/
theorem Gl.start {sf n : Nat} {S : List Int} (h : SOk S sf) : Gl sf n ⟨S, [], [], 0, List.replicate n 0⟩ :=
  ⟨⟨Nat.zero_le _, List.nodup_nil, fun x hx => (by cases hx), Nat.zero_le _, List.nodup_nil, h, Nat.zero_le _⟩, List.Pairwise.nil, fun u hu => (by cases hu), List.length_replicate, fun i => by
    have : (List.replicate n 0).getD i 0 = 0 := by
      rw [List.getD_eq_getElem?_getD, List.getElem?_replicate]
      split <;> rfl
    rw [this]; exact Sb.zero _⟩
end Fe
end Go.Proofs.Ytgllkfolckbdhaa
