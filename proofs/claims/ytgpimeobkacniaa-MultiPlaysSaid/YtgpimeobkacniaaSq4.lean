/-
  seq.hang.
-/
import Derived.Test.YtgpimeobkacniaaSq3
import Derived.Test.YtgpimeobkacniaaSqL
set_option linter.unusedVariables false
set_option linter.unusedSimpArgs false
namespace Go.Proofs.Ytgpimeobkacniaa
open Go.RowKit
namespace Sq
open Oct Ids Mp
open Mem (M It blk ids rows)
def fN (x : Nd) : Value := .agg (ne x).toArray
def fB (p : Value × List (List UInt8)) : Value := p.1
def rowB (B : Bhs) (r : List UInt8) : Value × List (List UInt8) := (fget B r).getD (.slice none 0 0, [])
def hN (N : Nds) (y : List UInt8) : Int := ((fget N y).map (·.h)).getD 0
def aheadOf (N : Nds) (h : Int) (u : List UInt8) (y : List UInt8) : Bool := ah h u (hN N y) y
def cutN (N : Nds) (h : Int) (u : List UInt8) (l : List (List UInt8)) : Nat := (l.takeWhile (aheadOf N h u)).length
def insN (N : Nds) (h : Int) (u : List UInt8) (l : List (List UInt8)) : List (List UInt8) := l.take (cutN N h u l) ++ [u] ++ l.drop (cutN N h u l)
theorem cut_at {p : List UInt8 → Bool} : ∀ {l : List (List UInt8)} {k : Nat}, k ≤ l.length → (∀ j y, j < k → l[j]? = some y → p y = true) → (∀ y, l[k]? = some y → p y = false) → (l.takeWhile p).length = k
  | [], k, hk, _, _ => by simp at hk; simp [hk]
  | a :: l, 0, _, _, h2 => by
    have := h2 a rfl
    simp [this]
  | a :: l, k + 1, hk, h1, h2 => by
    have ha := h1 0 a (by omega) rfl
    rw [List.takeWhile_cons, if_pos ha, List.length_cons]
    refine congrArg (· + 1) (cut_at (by simpa using hk) (fun j y hj hy => h1 (j + 1) y (by omega) hy) (fun y hy => h2 y hy))
theorem ne_rng {w : World} {b : Nat} {x : Nd} {t : TypeId} {fr : Nat × Nat} (h : w.heap[b]? = some (.cells (ne x).toArray t fr)) : w.rangeAt b 1 (x.r.map bv) := fun j v hj => by
  rw [cell_of h, List.getElem?_toArray, ← List.getElem?_drop, ne_ref, List.getElem?_append_left (List.getElem?_eq_some_iff.1 hj).1]
  exact hj
theorem mem_fput {α β : Type} [DecidableEq α] {L : List (α × β)} {k : α} {v : β} {p : α × β} (h : p ∈ fput L k v) : p = (k, v) ∨ p ∈ L := by
  unfold fput at h
  split at h
  · obtain ⟨q, hq, e⟩ := List.mem_map.1 h
    split at e
    · exact .inl e.symm
    · exact .inr (e ▸ hq)
  · rcases List.mem_append.1 h with h | h
    · exact .inr h
    · exact .inl (List.mem_singleton.1 h)
theorem row_is {w : World} {B : Bhs} (h : (beh B).holds w) (r : List UInt8) : RowIs w (rowB B r).1 (rowB B r).2 := by
  unfold rowB
  cases he : fget B r with
  | none => exact .inl ⟨rfl, rfl⟩
  | some p => exact h (r, p) (fget_mem he)
theorem zero_of {T : TypeId} {z : Value} {n : Nat} (h : (Try.prog.info? T).map (fun i => (i.zero, i.size)) = some (some z, n)) (w : World) : (zeroValue T).run Try.prog w = .ok z w := by
  cases hi : Try.prog.info? T with
  | none => rw [hi] at h; cases h
  | some i =>
    rw [hi] at h
    simp only [Option.map_some, Option.some.injEq, Prod.mk.injEq] at h
    simp [zeroValue, typeInfo, hi, h.1]
theorem zeroN (w : World) : (zeroValue 124).run Try.prog w = .ok (.agg nz) w := zero_of tyN.info w
theorem zeroR (w : World) : (zeroValue 29).run Try.prog w = .ok (.slice none 0 0) w := zero_of (n := 1) (by kernel_rfl) w
theorem look_row (B : Bhs) (r : List UInt8) : (get (dB B) r).getD (.slice none 0 0) = (rowB B r).1 := by
  rw [show dB B = enc2 fB B from rfl, get_enc2]
  unfold rowB
  cases fget B r with
  | none => rfl
  | some p => rfl
/-- The cells of a node that is looked up. -/
def lookN (N : Nds) (y : List UInt8) : List Value := ((fget N y).map ne).getD nz.toList
theorem look_nd (N : Nds) (y : List UInt8) : (get (dN N) y).getD (.agg nz) = .agg (lookN N y).toArray := by
  rw [show dN N = enc2 fN N from rfl, get_enc2]
  unfold lookN
  cases fget N y with
  | none => simp
  | some p => rfl
theorem lookN_h (N : Nds) (y : List UInt8) : (lookN N y).toArray[0]? = some (.int .i64 (hN N y)) := by
  unfold lookN hN
  cases fget N y with
  | none => rfl
  | some p => rfl
theorem lookN_len (N : Nds) (y : List UInt8) : (lookN N y).length = 34 := by
  unfold lookN
  cases fget N y with
  | none => rfl
  | some p => exact ne_len p
theorem run_fh (N : Nds) (y : List UInt8) (w : World) : (Instr.field 124 (.agg (lookN N y).toArray) 0).run Try.prog w = .ok (.int .i64 (hN N y)) w := by
  have h := lookN_h N y
  rw [List.getElem?_toArray] at h
  simp [Instr.field, run_underlying Try.underlying124, part, isAgg, run_underlying Try.underlying3, asAgg, h]
theorem ex_field {P : Program} {o : Oper} {a : Act} {T : TypeId} {X : Operand} {i : Nat} {cs : Array Value} {v : Value} (ho : o.op = .field T X i) (hx : a.eval X = .agg cs) (hr : ∀ w, (Instr.field T (.agg cs) i).run P w = .ok v w) : ∀ w, (execOp a.eval o).run P w = .ok (.value v) w := fun w => by
  unfold execOp
  simp only [ho, hx, Sem.run_bind, hr, Result.andThen_ok, Sem.run_pure]
theorem icut {w : World} {a : Option Addr} {n : Nat} {els : List (List UInt8)} (h : At w a n els) (j : Nat) (hj : j ≤ n) : At w a j (els.take j) := by
  refine ⟨by rw [List.length_take, h.len]; omega, fun x hx => h.size x (List.mem_of_mem_take hx), Nat.le_trans hj h.most, ?_⟩
  rcases h.lay with e | ⟨b, off, ha, hb, hr⟩
  · exact .inl (by omega)
  · refine .inr ⟨b, off, ha, hb, fun i x hi => hr i x ?_⟩
    rw [List.getElem?_take] at hi
    split at hi
    · exact hi
    · cases hi
theorem itail {w : World} {g off n : Nat} {els : List (List UInt8)} (h : At w (some ⟨g, off, none⟩) n els) (j : Nat) (hj : j ≤ n) : At w (some ⟨g, off + j * 32, none⟩) (n - j) (els.drop j) := by
  refine ⟨by rw [List.length_drop, h.len], fun x hx => h.size x (List.mem_of_mem_drop hx), Nat.le_trans (Nat.sub_le _ _) h.most, ?_⟩
  rcases h.lay with e | ⟨b, off', ha, hb, hr⟩
  · exact .inl (by omega)
  · cases ha
    refine .inr ⟨_, _, rfl, hb, fun i x hi => ?_⟩
    rw [List.getElem?_drop] at hi
    have := hr (j + i) x hi
    rwa [show off + j * 32 + i * 32 = off + (j + i) * 32 by rw [Nat.add_mul]; omega]
theorem iempty {w : World} {a : Option Addr} : At w a 0 [] := ⟨rfl, (fun x hx => by cases hx), Nat.zero_le _, .inl rfl⟩
theorem iat1 {w : World} {b : Nat} {u : List UInt8} {t : TypeId} {fr : Nat × Nat} (h : w.heap[b]? = some (.cells (u.map bv).toArray t fr)) (hu : u.length = 32) : At w (some ⟨b, 0, none⟩) 1 [u] := by
  refine ⟨rfl, fun x hx => by rw [List.mem_singleton.1 hx]; exact hu, by unfold maxLen; omega, .inr ⟨b, 0, rfl, lt_of_block h, fun i x hi => ?_⟩⟩
  have hi0 : i = 0 := by have := (List.getElem?_eq_some_iff.1 hi).1; simp at this; omega
  subst hi0
  cases hi
  intro j v hj
  simp only [Nat.zero_mul, Nat.zero_add]
  rw [cell_of h, List.getElem?_toArray]
  exact hj
theorem beh_put {F : Nat → Prop} {w0 w w1 : World} {it : List It} (h : M F w0 w it) (i : Nat) {B : Bhs} (hi : it[i]? = some (beh B)) (r : List UInt8) {v : Value} {l : List (List UInt8)} (n : Ids.New w w1 v l) : M F w0 w1 (it.set i (beh (fput B r (v, l)))) :=
  h.upd i hi (S := fun _ => False) n.2.1 (fun _ h => h.elim) (y := beh (fput B r (v, l))) (fun p hp => by
    rcases mem_fput hp with rfl | hp
    · exact RowIs.of n.1
    · exact ((show ∀ p ∈ B, RowIs w p.2.1 p.2.2 from h.get i hi) p hp).keep n.2.1 (fun _ _ h => h)) (fun k ⟨p, hp, e⟩ => by
    rcases mem_fput hp with rfl | hp
    · exact .inr ⟨n.2.2 k e, n.1.lt e⟩
    · exact .inl ⟨p, hp, e⟩)
theorem put_B {w : World} {b : Nat} {B : Bhs} (h : (mp okI idv b (dB B)).holds w) (r : List UInt8) (v : Value) (l : List (List UInt8)) : put (dB B) r v = dB (fput B r (v, l)) :=
  put_enc2 fB B (by have := (show Is okI idv w b (dB B) from h).nd; rwa [show dB B = enc2 fB B from rfl, keys_enc2] at this) r (v, l)
theorem put_N {w : World} {b : Nat} {N : Nds} (h : (mp okI idv b (dN N)).holds w) (u : List UInt8) (x : Nd) : put (dN N) u (fN x) = dN (fput N u x) :=
  put_enc2 fN N (by have := (show Is okI idv w b (dN N) from h).nd; rwa [show dN N = enc2 fN N from rfl, keys_enc2] at this) u x
abbrev it7 (w : World) (b bn bb bg : Nat) (N : Nds) (B : Bhs) (G : List (List UInt8)) (u : List UInt8) (x : Nd) : List It := [blk b (sc bn bb bg), mp okI idv bn (dN N), mp okI idv bb (dB B), mp okI idv bg (dG G), beh B, blk w.heap.size (.cells (u.map bv).toArray 35), blk (w.heap.size + 1) (.cells (ne x).toArray 124)]
set_option maxRecDepth 100000 in
set_option maxHeartbeats 8000000 in
theorem hang_any (w : World) (b bn bb bg : Nat) (N : Nds) (B : Bhs) (G : List (List UInt8)) (h : SqAt w b bn bb bg N B G) (hB : ∀ p ∈ B, p.2.2.length ≤ 1000) (u : List UInt8) (hu : u.length = 32) (x : Nd) :
    Calls Try.prog 88 #[.pointer (some ⟨b, 0, none⟩), idv u, .agg (ne x).toArray] w fun e w' => e = .returned (.tuple #[]) ∧ ∃ v, STo w w' b bn bb bg B (fput N u x) (fput B x.r (v, insN N x.h u (rowB B x.r).2)) G := by
  have HM : Hid (M (foot b bn bb bg B) w _ (it7 w b bn bb bg N B G u x)) := (h.all.alloc (.cells (u.map bv).toArray 35) rfl).alloc (.cells (ne x).toArray 124) (b := w.heap.size + 1) (by simp)
  have HU : Hid (u.length = 32) := hu
  have HR : Hid (x.r.length = 32) := x.hr
  have HBl : Hid ((rowB B x.r).2.length ≤ 1000) := by
    show _ ≤ _
    unfold rowB
    cases he : fget B x.r with
    | none => exact Nat.zero_le _
    | some p => exact hB (x.r, p) (fget_mem he)
  have HRow := row_is (h.all.get 4 rfl) x.r
  have KW : Hid (Keep (fun _ => False) w _) := ((Keep.refl (fun _ => False) w).alloc (.cells (u.map bv).toArray 35)).alloc (.cells (ne x).toArray 124)
  have HLk := look_row B x.r
  obtain ⟨rv, hrv⟩ : ∃ v, (rowB B x.r).1 = v := ⟨_, rfl⟩
  obtain ⟨rl, hrl⟩ : ∃ v, (rowB B x.r).2 = v := ⟨_, rfl⟩
  rw [hrv] at HLk HRow
  rw [hrl] at HRow HBl ⊢
  obtain ⟨ra, rn, rc, e1, hat, hra⟩ : ∃ ra rn rc, rv = .slice ra rn rc ∧ At w ra rn rl ∧ ((ra = none ∧ rn = 0 ∧ rc = 0) ∨ (∃ g, ra = some ⟨g, 0, none⟩) ∧ rn ≤ rc ∧ rc ≤ maxLen) := by
    rcases HRow with ⟨e1, e2⟩ | ⟨g, c, e1, hat, hc, hcm⟩
    · exact ⟨none, 0, 0, e1, by rw [e2]; exact ⟨rfl, (fun x hx => by cases hx), Nat.zero_le _, .inl rfl⟩, .inl ⟨rfl, rfl, rfl⟩⟩
    · exact ⟨_, _, c, e1, hat, .inr ⟨⟨g, rfl⟩, hc, hcm⟩⟩
  subst e1
  have HLk : Hid _ := HLk
  have HAt : Hid (At w ra rn rl) := hat
  have HRa : Hid ((ra = none ∧ rn = 0 ∧ rc = 0) ∨ (∃ g, ra = some ⟨g, 0, none⟩) ∧ rn ≤ rc ∧ rc ≤ maxLen) := hra
  have HL : Hid (rl.length = rn) := hat.len
  have hrn : rn ≤ 1000 := by rw [← hat.len]; exact HBl.out
  clear h hu hB hrv hrl HRow hat hra
  go_enter Try.func88, Try.ntmps88
  go_wp2
  have HM : Hid _ := HM.out.drew
  have KW : Hid _ := KW.out.drew
  have c1 := HM.out.cell 0 rfl 1 (v := .map (some bb)) rfl
  have R1 : Hid _ := ne_rng (HM.out.get 6 rfl)
  refine Txt.wp_region_text (fun _ => True) [0, 0, 0, 1, 0, 1, 1, 0] (by kernel_rfl) (by kernel_rfl) trivial ?_
  (repeat (first | (refine Txt.tl_pure (v := ?_) (by rfl) ?_ ?_; rotate_left; (focus (intro _; go_simp; try with_reducible rfl)); simp only [Act.put, List.setIfInBounds_toArray, List.set_cons_zero, List.set_cons_succ]) | (refine Txt.tl_load (v := ?_) (by rfl) (by rfl) (by rfl) (by kernel_rfl) ?_ ?_; rotate_left; (focus assumption); simp only [Act.put, List.setIfInBounds_toArray, List.set_cons_zero, List.set_cons_succ]) | (refine Txt.tl_rowN (n := 32) (ty := 35) (by rfl) (by rfl) (by rfl) R1.out (by kernel_rfl) (by rw [List.length_map]; exact HR.out) ?_; simp only [Act.put, List.setIfInBounds_toArray, List.set_cons_zero, List.set_cons_succ])))
  refine Mp.tl_look idKey Try.underlying94 (by rfl) rfl rfl (HM.out.get 2 rfl) zeroR HR.out rfl HLk.out ?_
  simp only [Act.put, List.setIfInBounds_toArray, List.set_cons_zero, List.set_cons_succ]
  (repeat (first | (refine Txt.tl_pure (v := ?_) (by rfl) ?_ ?_; rotate_left; (focus (intro _; go_simp; try with_reducible rfl)); simp only [Act.put, List.setIfInBounds_toArray, List.set_cons_zero, List.set_cons_succ]) | (refine Txt.tl_load (v := ?_) (by rfl) (by rfl) (by rfl) (by kernel_rfl) ?_ ?_; rotate_left; (focus assumption); simp only [Act.put, List.setIfInBounds_toArray, List.set_cons_zero, List.set_cons_succ]) | (refine Txt.tl_rowN (n := 32) (ty := 35) (by rfl) (by rfl) (by rfl) R1.out (by kernel_rfl) (by rw [List.length_map]; exact HR.out) ?_; simp only [Act.put, List.setIfInBounds_toArray, List.set_cons_zero, List.set_cons_succ])))
  refine Txt.tl_nil ?_
  clear c1 R1
  go_wp2
  go_loopw [7] (fun s7 wr => ∃ k : Nat, k ≤ rn ∧ s7 = .int .i64 k ∧ (∀ (j : Nat) (y : List UInt8), j < k → rl[j]? = some y → aheadOf N x.h u y = true) ∧ M (foot b bn bb bg B) w wr (it7 w b bn bb bg N B G u x) ∧ Keep (fun _ => False) w wr) (fun s7 _ => rn - (intOf s7).toNat)
  case atStart => exact ⟨0, Nat.zero_le _, by go_num, fun j y hj => absurd hj (Nat.not_lt_zero _), HM.out, KW.out⟩
  case round =>
    clear HM KW
    obtain ⟨k, hk, rfl, hno, hM, hK⟩ := hrel
    have HM : Hid _ := hM.drew
    have KW : Hid _ := hK.drew
    have HNo : Hid (∀ (j : Nat) (y : List UInt8), j < k → rl[j]? = some y → aheadOf N x.h u y = true) := hno
    clear hM hK hno
    by_cases hlt : k < rn
    · obtain ⟨y, hy⟩ : ∃ y, rl[k]? = some y := ⟨_, List.getElem?_eq_getElem (by rw [HL.out]; exact hlt)⟩
      have Hy : Hid (rl[k]? = some y) := hy
      have HYl : Hid (y.length = 32) := HAt.out.size y (List.mem_of_getElem? hy)
      obtain ⟨g0, o0, e0, _, hr0⟩ : ∃ b off, ra = some ⟨b, off, none⟩ ∧ b < w.heap.size ∧ ∀ i x, rl[i]? = some x → w.rangeAt b (off + i * 32) (x.map bv) := by rcases HAt.out.lay with e | e; omega; exact e
      subst e0
      have R2 : Hid _ := ((HAt.out.calm KW.out).lay.resolve_left (by omega))
      have R3 : Hid (wr.drew.rangeAt g0 (o0 + k * 32) (y.map bv)) := by
        obtain ⟨b', o', e', _, hr'⟩ := R2.out
        cases e'
        exact hr' k y hy
      have c0 := HM.out.cell 0 rfl 0 (v := .map (some bn)) rfl
      have dh := HM.out.cell 6 rfl 0 (v := .int .i64 x.h) rfl
      obtain ⟨p, hp⟩ : ∃ p, aheadOf N x.h u y = p := ⟨_, rfl⟩
      have Hp : Hid (aheadOf N x.h u y = p) := hp
      have HAh : Hid (∀ w, Calls Try.prog 114 #[.int .i64 x.h, idv u, .int .i64 (hN N y), idv y] w fun e w' => e = .returned (.bool p) ∧ Keep (fun _ => False) w w') := fun w => ahead_any w x.h (hN N y) u y HU.out HYl.out p hp
      clear R2 hr0 hy hp
      go_wp2
      refine Txt.wp_region_text (fun _ => True) [0, 0, 0, 0, 0, 0, 1, 1, 0, 0, 0, 1, 0, 0, 0, 1, 1, 0, 0, 0, 0, 1, 4, 0] (by kernel_rfl) (by kernel_rfl) trivial ?_
      (repeat (first | (refine Txt.tl_pure (v := ?_) (by rfl) ?_ ?_; rotate_left; (focus (intro _; go_simp; try with_reducible rfl)); simp only [Act.put, List.setIfInBounds_toArray, List.set_cons_zero, List.set_cons_succ]) | (refine Txt.tl_load (v := ?_) (by rfl) (by rfl) (by rfl) (by kernel_rfl) ?_ ?_; rotate_left; (focus assumption); simp only [Act.put, List.setIfInBounds_toArray, List.set_cons_zero, List.set_cons_succ]) | (refine Txt.tl_rowN (n := 32) (ty := 35) (by rfl) (by rfl) (by rfl) (HM.out.range 5 rfl) (by kernel_rfl) (by rw [List.length_map]; exact HU.out) ?_; simp only [Act.put, List.setIfInBounds_toArray, List.set_cons_zero, List.set_cons_succ]) | (refine Txt.tl_rowN (n := 32) (ty := 35) (by rfl) (by rfl) (by rfl) R3.out (by kernel_rfl) (by rw [List.length_map]; exact HYl.out) ?_; simp only [Act.put, List.setIfInBounds_toArray, List.set_cons_zero, List.set_cons_succ]) | (refine Txt.tl_skip (by rfl) trivial ?_; simp only [Act.put, List.setIfInBounds_toArray, List.set_cons_zero, List.set_cons_succ])))
      refine Mp.tl_look idKey Try.underlying93 (by rfl) rfl rfl (HM.out.get 1 rfl) zeroN HYl.out rfl (look_nd N y) ?_
      simp only [Act.put, List.setIfInBounds_toArray, List.set_cons_zero, List.set_cons_succ]
      refine Txt.tl_pure (v := .int .i64 (hN N y)) (by rfl) (ex_field rfl rfl (run_fh N y)) ?_
      simp only [Act.put, List.setIfInBounds_toArray, List.set_cons_zero, List.set_cons_succ]
      (repeat (first | (refine Txt.tl_pure (v := ?_) (by rfl) ?_ ?_; rotate_left; (focus (intro _; go_simp; try with_reducible rfl)); simp only [Act.put, List.setIfInBounds_toArray, List.set_cons_zero, List.set_cons_succ]) | (refine Txt.tl_load (v := ?_) (by rfl) (by rfl) (by rfl) (by kernel_rfl) ?_ ?_; rotate_left; (focus assumption); simp only [Act.put, List.setIfInBounds_toArray, List.set_cons_zero, List.set_cons_succ]) | (refine Txt.tl_rowN (n := 32) (ty := 35) (by rfl) (by rfl) (by rfl) (HM.out.range 5 rfl) (by kernel_rfl) (by rw [List.length_map]; exact HU.out) ?_; simp only [Act.put, List.setIfInBounds_toArray, List.set_cons_zero, List.set_cons_succ]) | (refine Txt.tl_rowN (n := 32) (ty := 35) (by rfl) (by rfl) (by rfl) R3.out (by kernel_rfl) (by rw [List.length_map]; exact HYl.out) ?_; simp only [Act.put, List.setIfInBounds_toArray, List.set_cons_zero, List.set_cons_succ]) | (refine Txt.tl_skip (by rfl) trivial ?_; simp only [Act.put, List.setIfInBounds_toArray, List.set_cons_zero, List.set_cons_succ])))
      refine Txt.tl_call Try.func114 (by kernel_rfl) (by kernel_rfl) (by rfl) (by rfl) (by rfl) (vs := #[.int .i64 x.h, idv u, .int .i64 (hN N y), idv y]) (HAh.out _) ?_
      rintro e w4 ⟨rfl, k4⟩
      have HM : Hid _ := HM.out.calm k4
      have KW : Hid _ := KW.out.trans k4
      clear k4
      refine ⟨_, rfl, trivial, ?_⟩
      simp only [Act.put, List.setIfInBounds_toArray, List.set_cons_zero, List.set_cons_succ]
      clear c0 dh
      cases p with
      | true =>
        (repeat (first | (refine Txt.tl_pure (v := ?_) (by rfl) ?_ ?_; rotate_left; (focus (intro _; go_simp; try with_reducible rfl)); simp only [Act.put, List.setIfInBounds_toArray, List.set_cons_zero, List.set_cons_succ]) | (refine Txt.tl_load (v := ?_) (by rfl) (by rfl) (by rfl) (by kernel_rfl) ?_ ?_; rotate_left; (focus assumption); simp only [Act.put, List.setIfInBounds_toArray, List.set_cons_zero, List.set_cons_succ]) | (refine Txt.tl_rowN (n := 32) (ty := 35) (by rfl) (by rfl) (by rfl) (HM.out.range 5 rfl) (by kernel_rfl) (by rw [List.length_map]; exact HU.out) ?_; simp only [Act.put, List.setIfInBounds_toArray, List.set_cons_zero, List.set_cons_succ]) | (refine Txt.tl_rowN (n := 32) (ty := 35) (by rfl) (by rfl) (by rfl) R3.out (by kernel_rfl) (by rw [List.length_map]; exact HYl.out) ?_; simp only [Act.put, List.setIfInBounds_toArray, List.set_cons_zero, List.set_cons_succ]) | (refine Txt.tl_skip (by rfl) trivial ?_; simp only [Act.put, List.setIfInBounds_toArray, List.set_cons_zero, List.set_cons_succ])))
        refine Txt.tl_nil ?_
        go_wp2
        go_roundw
        case rel =>
          refine ⟨k + 1, by omega, by go_num, fun j y' hj hy' => ?_, HM.out, KW.out⟩
          rcases Nat.lt_or_ge j k with h | h
          · exact HNo.out j y' h hy'
          · obtain rfl : j = k := by omega
            rw [Hy.out] at hy'
            cases hy'
            exact Hp.out
        case measure => simp [intOf]; omega
      | false =>
        (repeat (first | (refine Txt.tl_pure (v := ?_) (by rfl) ?_ ?_; rotate_left; (focus (intro _; go_simp; try with_reducible rfl)); simp only [Act.put, List.setIfInBounds_toArray, List.set_cons_zero, List.set_cons_succ]) | (refine Txt.tl_load (v := ?_) (by rfl) (by rfl) (by rfl) (by kernel_rfl) ?_ ?_; rotate_left; (focus assumption); simp only [Act.put, List.setIfInBounds_toArray, List.set_cons_zero, List.set_cons_succ]) | (refine Txt.tl_rowN (n := 32) (ty := 35) (by rfl) (by rfl) (by rfl) (HM.out.range 5 rfl) (by kernel_rfl) (by rw [List.length_map]; exact HU.out) ?_; simp only [Act.put, List.setIfInBounds_toArray, List.set_cons_zero, List.set_cons_succ]) | (refine Txt.tl_rowN (n := 32) (ty := 35) (by rfl) (by rfl) (by rfl) R3.out (by kernel_rfl) (by rw [List.length_map]; exact HYl.out) ?_; simp only [Act.put, List.setIfInBounds_toArray, List.set_cons_zero, List.set_cons_succ]) | (refine Txt.tl_skip (by rfl) trivial ?_; simp only [Act.put, List.setIfInBounds_toArray, List.set_cons_zero, List.set_cons_succ])))
        refine Txt.tl_nil ?_
        go_wp2
        have Hct : Hid (cutN N x.h u rl = k) := cut_at (by rw [HL.out]; omega) HNo.out (fun y' hy' => by rw [Hy.out] at hy'; cases hy'; exact Hp.out)
        clear HNo Hp HAh Hy R3
        obtain ⟨⟨g, eg⟩, hnc, hcm⟩ := HRa.out.resolve_left (fun h => by have := h.2.1; omega)
        cases eg
        have hkn : (k : Int) ≤ (rn : Int) := by omega
        have hkc : (k : Int) ≤ (rc : Int) := by omega
        have hnc' : (rn : Int) ≤ (rc : Int) := by omega
        have c1 := HM.out.drew.cell 0 rfl 1 (v := .map (some bb)) rfl
        have A1 : Hid (At w (some ⟨g0, 0, none⟩) k (rl.take k)) := icut HAt.out k (by omega)
        refine Txt.wp_region_text (fun w' => w'.cell? ⟨b, 1, none⟩ = some (.map (some bb)) ∧ w'.rangeAt (w.heap.size + 1) 1 (x.r.map bv)) [0, 0, 0, 2, 0, 2, 0, 0, 0, 0, 1, 3, 0, 0, 0, 3, 4, 4] (by kernel_rfl) (by kernel_rfl) ⟨c1, ne_rng (HM.out.drew.get 6 rfl)⟩ ?_
        clear c1
        by_cases hcp : rc = k
        · have A2 : Hid (At w (some ⟨g0, 0, none⟩) 0 (rl.drop k)) := by rw [List.drop_eq_nil_of_le (by rw [HL.out]; omega)]; exact iempty
          obtain rfl : k = rn := by omega
          subst hcp
          (repeat (first | (refine Txt.tl_pure (v := ?_) (by rfl) ?_ ?_; rotate_left; (focus (intro _; go_simp; try with_reducible rfl)); simp only [Act.put, List.setIfInBounds_toArray, List.set_cons_zero, List.set_cons_succ]) | (refine Txt.tl_loadS (v := .map (some bb)) (by rfl) (by rfl) (by rfl) (by kernel_rfl) (fun _ h => h.1) ?_; simp only [Act.put, List.setIfInBounds_toArray, List.set_cons_zero, List.set_cons_succ]) | (refine Txt.tl_rowSN (n := 32) (ty := 35) (by rfl) (by rfl) (by rfl) (fun _ h => h.2) (by kernel_rfl) (by rw [List.length_map]; exact HR.out) ?_; simp only [Act.put, List.setIfInBounds_toArray, List.set_cons_zero, List.set_cons_succ]) | (refine Txt.tl_rowN (n := 32) (ty := 35) (by rfl) (by rfl) (by rfl) (HM.out.range 5 rfl) (by kernel_rfl) (by rw [List.length_map]; exact HU.out) ?_; simp only [Act.put, List.setIfInBounds_toArray, List.set_cons_zero, List.set_cons_succ])))
          refine Txt.tl_alloc (by rfl) ?_
          refine St.wp_build slId (by decide) rfl (by rw [List.length_map]; exact HU.out) rfl ?_
          have HMa : Hid _ := HM.out.drew.alloc (.cells (u.map bv).toArray 35) rfl
          have HM : Hid _ := HM.out.alloc (.cells (u.map bv).toArray 35) rfl
          have KW : Hid _ := KW.out.alloc (.cells (u.map bv).toArray 35)
          refine ⟨⟨Txt.Le.alloc _ _, HMa.out.cell 0 rfl 1 rfl, ne_rng (HMa.out.get 6 rfl)⟩, ?_⟩
          simp only [Act.put, List.setIfInBounds_toArray, List.set_cons_zero, List.set_cons_succ]
          clear HMa
          (repeat (first | (refine Txt.tl_pure (v := ?_) (by rfl) ?_ ?_; rotate_left; (focus (intro _; go_simp; try with_reducible rfl)); simp only [Act.put, List.setIfInBounds_toArray, List.set_cons_zero, List.set_cons_succ]) | (refine Txt.tl_loadS (v := .map (some bb)) (by rfl) (by rfl) (by rfl) (by kernel_rfl) (fun _ h => h.1) ?_; simp only [Act.put, List.setIfInBounds_toArray, List.set_cons_zero, List.set_cons_succ]) | (refine Txt.tl_rowSN (n := 32) (ty := 35) (by rfl) (by rfl) (by rfl) (fun _ h => h.2) (by kernel_rfl) (by rw [List.length_map]; exact HR.out) ?_; simp only [Act.put, List.setIfInBounds_toArray, List.set_cons_zero, List.set_cons_succ]) | (refine Txt.tl_rowN (n := 32) (ty := 35) (by rfl) (by rfl) (by rfl) (HM.out.range 5 rfl) (by kernel_rfl) (by rw [List.length_map]; exact HU.out) ?_; simp only [Act.put, List.setIfInBounds_toArray, List.set_cons_zero, List.set_cons_succ])))
          refine Txt.tl_alloc (by rfl) ?_
          go_simp
          have HM : Hid _ := (HM.out.alloc (.cells #[.slice (some ⟨g0, 0, none⟩) rc rc, .slice (some ⟨(w4).heap.size, 0, none⟩) 1 1, .slice (some ⟨g0, 0, none⟩) (0) (0)] 29) (b := (w4).heap.size + 1) (by simp)).drew
          have KW : Hid _ := (KW.out.alloc (.cells #[.slice (some ⟨g0, 0, none⟩) rc rc, .slice (some ⟨(w4).heap.size, 0, none⟩) 1 1, .slice (some ⟨g0, 0, none⟩) (0) (0)] 29)).drew
          refine ⟨⟨by first | exact Txt.Le.alloc_drew _ _ | exact Txt.Le.alloc _ _, HM.out.cell 0 rfl 1 rfl, ne_rng (HM.out.get 6 rfl)⟩, ?_⟩
          (repeat (first | (refine Txt.tl_pure (v := ?_) (by rfl) ?_ ?_; rotate_left; (focus (intro _; go_simp; try with_reducible rfl)); simp only [Act.put, List.setIfInBounds_toArray, List.set_cons_zero, List.set_cons_succ]) | (refine Txt.tl_skip (by rfl) trivial ?_; simp only [Act.put, List.setIfInBounds_toArray, List.set_cons_zero, List.set_cons_succ])))
          refine Txt.tl_call Try.func115 (by kernel_rfl) (by kernel_rfl) (by rfl) (by rfl) (by rfl) (concat3 _ ((w4).heap.size + 1) rc rc 1 1 (0) (0) (some ⟨g0, 0, none⟩) (some ⟨(w4).heap.size, 0, none⟩) (some ⟨g0, 0, none⟩) (rl.take rc) [u] (rl.drop rc) (HM.out.get 8 rfl) (A1.out.calm KW.out) (iat1 (HM.out.get 7 rfl) HU.out) (A2.out.calm KW.out) (by omega)) ?_
          rintro e w6 ⟨v6, rfl, n6⟩
          have HM : Hid _ := beh_put HM.out 4 rfl x.r n6
          have KW : Hid _ := KW.out.trans n6.2.1
          clear n6
          refine ⟨_, rfl, ⟨HM.out.cell 0 rfl 1 rfl, ne_rng (HM.out.get 6 rfl)⟩, ?_⟩
          simp only [Act.put, List.setIfInBounds_toArray, List.set_cons_zero, List.set_cons_succ]
          refine Txt.tl_loud (by rfl) ?_
          refine Mp.wp_put idKey Try.underlying94 rfl rfl (HM.out.get 2 rfl) HR.out rfl (v := v6) rfl ?_
          rw [put_B (HM.out.get 2 rfl) x.r v6 (rl.take rc ++ [u] ++ rl.drop rc)]
          intro w7 h7 k7
          have HM : Hid _ := M.setMap HM.out 2 rfl h7 k7
          clear h7 k7
          refine ⟨⟨HM.out.cell 0 rfl 1 rfl, ne_rng (HM.out.get 6 rfl)⟩, ?_⟩
          simp only [Act.put, List.setIfInBounds_toArray, List.set_cons_zero, List.set_cons_succ]
          refine Txt.tl_nil ?_
          go_wp2
          have HM : Hid _ := HM.out.drew
          have c0 := HM.out.cell 0 rfl 0 (v := .map (some bn)) rfl
          refine Txt.wp_region_text (fun _ => True) [0, 0, 0, 1, 1, 1, 4] (by kernel_rfl) (by kernel_rfl) trivial ?_
          (repeat (first | (refine Txt.tl_pure (v := ?_) (by rfl) ?_ ?_; rotate_left; (focus (intro _; go_simp; try with_reducible rfl)); simp only [Act.put, List.setIfInBounds_toArray, List.set_cons_zero, List.set_cons_succ]) | (refine Txt.tl_load (v := ?_) (by rfl) (by rfl) (by rfl) (by kernel_rfl) ?_ ?_; rotate_left; (focus assumption); simp only [Act.put, List.setIfInBounds_toArray, List.set_cons_zero, List.set_cons_succ]) | (refine Txt.tl_rowN (n := 32) (ty := 35) (by rfl) (by rfl) (by rfl) (HM.out.range 5 rfl) (by kernel_rfl) (by rw [List.length_map]; exact HU.out) ?_; simp only [Act.put, List.setIfInBounds_toArray, List.set_cons_zero, List.set_cons_succ]) | (refine Txt.tl_rowN (n := 34) (ty := 124) (by rfl) (by rfl) (by rfl) (HM.out.range 6 rfl) (by kernel_rfl) (ne_len x) ?_; simp only [Act.put, List.setIfInBounds_toArray, List.set_cons_zero, List.set_cons_succ])))
          refine Txt.tl_loud (by rfl) ?_
          refine Mp.wp_put idKey Try.underlying93 rfl rfl (HM.out.get 1 rfl) HU.out rfl (v := fN x) rfl ?_
          rw [put_N (HM.out.get 1 rfl) u x]
          intro w8 h8 k8
          have HM : Hid _ := M.setMap HM.out 1 rfl h8 k8
          clear h8 k8 c0
          refine ⟨trivial, ?_⟩
          simp only [Act.put, List.setIfInBounds_toArray, List.set_cons_zero, List.set_cons_succ]
          refine Txt.tl_nil ?_
          go_wp2
          go_end0
          refine ⟨rfl, v6, ?_⟩
          unfold insN
          rw [Hct.out]
          exact STo.of (HM.out.take 5)
        · have A2 : Hid (At w (some ⟨g0, k * 32, none⟩) (rn - k) (rl.drop k)) := by have := itail HAt.out k (by omega); rwa [Nat.zero_add] at this
          (repeat (first | (refine Txt.tl_pure (v := ?_) (by rfl) ?_ ?_; rotate_left; (focus (intro _; go_simp; try with_reducible rfl)); simp only [Act.put, List.setIfInBounds_toArray, List.set_cons_zero, List.set_cons_succ]) | (refine Txt.tl_loadS (v := .map (some bb)) (by rfl) (by rfl) (by rfl) (by kernel_rfl) (fun _ h => h.1) ?_; simp only [Act.put, List.setIfInBounds_toArray, List.set_cons_zero, List.set_cons_succ]) | (refine Txt.tl_rowSN (n := 32) (ty := 35) (by rfl) (by rfl) (by rfl) (fun _ h => h.2) (by kernel_rfl) (by rw [List.length_map]; exact HR.out) ?_; simp only [Act.put, List.setIfInBounds_toArray, List.set_cons_zero, List.set_cons_succ]) | (refine Txt.tl_rowN (n := 32) (ty := 35) (by rfl) (by rfl) (by rfl) (HM.out.range 5 rfl) (by kernel_rfl) (by rw [List.length_map]; exact HU.out) ?_; simp only [Act.put, List.setIfInBounds_toArray, List.set_cons_zero, List.set_cons_succ])))
          refine Txt.tl_alloc (by rfl) ?_
          refine St.wp_build slId (by decide) rfl (by rw [List.length_map]; exact HU.out) rfl ?_
          have HMa : Hid _ := HM.out.drew.alloc (.cells (u.map bv).toArray 35) rfl
          have HM : Hid _ := HM.out.alloc (.cells (u.map bv).toArray 35) rfl
          have KW : Hid _ := KW.out.alloc (.cells (u.map bv).toArray 35)
          refine ⟨⟨Txt.Le.alloc _ _, HMa.out.cell 0 rfl 1 rfl, ne_rng (HMa.out.get 6 rfl)⟩, ?_⟩
          simp only [Act.put, List.setIfInBounds_toArray, List.set_cons_zero, List.set_cons_succ]
          clear HMa
          (repeat (first | (refine Txt.tl_pure (v := ?_) (by rfl) ?_ ?_; rotate_left; (focus (intro _; go_simp; try with_reducible rfl)); simp only [Act.put, List.setIfInBounds_toArray, List.set_cons_zero, List.set_cons_succ]) | (refine Txt.tl_loadS (v := .map (some bb)) (by rfl) (by rfl) (by rfl) (by kernel_rfl) (fun _ h => h.1) ?_; simp only [Act.put, List.setIfInBounds_toArray, List.set_cons_zero, List.set_cons_succ]) | (refine Txt.tl_rowSN (n := 32) (ty := 35) (by rfl) (by rfl) (by rfl) (fun _ h => h.2) (by kernel_rfl) (by rw [List.length_map]; exact HR.out) ?_; simp only [Act.put, List.setIfInBounds_toArray, List.set_cons_zero, List.set_cons_succ]) | (refine Txt.tl_rowN (n := 32) (ty := 35) (by rfl) (by rfl) (by rfl) (HM.out.range 5 rfl) (by kernel_rfl) (by rw [List.length_map]; exact HU.out) ?_; simp only [Act.put, List.setIfInBounds_toArray, List.set_cons_zero, List.set_cons_succ])))
          refine Txt.tl_alloc (by rfl) ?_
          go_simp
          have HM : Hid _ := (HM.out.alloc (.cells #[.slice (some ⟨g0, 0, none⟩) k k, .slice (some ⟨(w4).heap.size, 0, none⟩) 1 1, .slice (some ⟨g0, k * 32, none⟩) (rn - k) (rc - k)] 29) (b := (w4).heap.size + 1) (by simp)).drew
          have KW : Hid _ := (KW.out.alloc (.cells #[.slice (some ⟨g0, 0, none⟩) k k, .slice (some ⟨(w4).heap.size, 0, none⟩) 1 1, .slice (some ⟨g0, k * 32, none⟩) (rn - k) (rc - k)] 29)).drew
          refine ⟨⟨by first | exact Txt.Le.alloc_drew _ _ | exact Txt.Le.alloc _ _, HM.out.cell 0 rfl 1 rfl, ne_rng (HM.out.get 6 rfl)⟩, ?_⟩
          (repeat (first | (refine Txt.tl_pure (v := ?_) (by rfl) ?_ ?_; rotate_left; (focus (intro _; go_simp; try with_reducible rfl)); simp only [Act.put, List.setIfInBounds_toArray, List.set_cons_zero, List.set_cons_succ]) | (refine Txt.tl_skip (by rfl) trivial ?_; simp only [Act.put, List.setIfInBounds_toArray, List.set_cons_zero, List.set_cons_succ])))
          refine Txt.tl_call Try.func115 (by kernel_rfl) (by kernel_rfl) (by rfl) (by rfl) (by rfl) (concat3 _ ((w4).heap.size + 1) k k 1 1 (rn - k) (rc - k) (some ⟨g0, 0, none⟩) (some ⟨(w4).heap.size, 0, none⟩) (some ⟨g0, k * 32, none⟩) (rl.take k) [u] (rl.drop k) (HM.out.get 8 rfl) (A1.out.calm KW.out) (iat1 (HM.out.get 7 rfl) HU.out) (A2.out.calm KW.out) (by omega)) ?_
          rintro e w6 ⟨v6, rfl, n6⟩
          have HM : Hid _ := beh_put HM.out 4 rfl x.r n6
          have KW : Hid _ := KW.out.trans n6.2.1
          clear n6
          refine ⟨_, rfl, ⟨HM.out.cell 0 rfl 1 rfl, ne_rng (HM.out.get 6 rfl)⟩, ?_⟩
          simp only [Act.put, List.setIfInBounds_toArray, List.set_cons_zero, List.set_cons_succ]
          refine Txt.tl_loud (by rfl) ?_
          refine Mp.wp_put idKey Try.underlying94 rfl rfl (HM.out.get 2 rfl) HR.out rfl (v := v6) rfl ?_
          rw [put_B (HM.out.get 2 rfl) x.r v6 (rl.take k ++ [u] ++ rl.drop k)]
          intro w7 h7 k7
          have HM : Hid _ := M.setMap HM.out 2 rfl h7 k7
          clear h7 k7
          refine ⟨⟨HM.out.cell 0 rfl 1 rfl, ne_rng (HM.out.get 6 rfl)⟩, ?_⟩
          simp only [Act.put, List.setIfInBounds_toArray, List.set_cons_zero, List.set_cons_succ]
          refine Txt.tl_nil ?_
          go_wp2
          have HM : Hid _ := HM.out.drew
          have c0 := HM.out.cell 0 rfl 0 (v := .map (some bn)) rfl
          refine Txt.wp_region_text (fun _ => True) [0, 0, 0, 1, 1, 1, 4] (by kernel_rfl) (by kernel_rfl) trivial ?_
          (repeat (first | (refine Txt.tl_pure (v := ?_) (by rfl) ?_ ?_; rotate_left; (focus (intro _; go_simp; try with_reducible rfl)); simp only [Act.put, List.setIfInBounds_toArray, List.set_cons_zero, List.set_cons_succ]) | (refine Txt.tl_load (v := ?_) (by rfl) (by rfl) (by rfl) (by kernel_rfl) ?_ ?_; rotate_left; (focus assumption); simp only [Act.put, List.setIfInBounds_toArray, List.set_cons_zero, List.set_cons_succ]) | (refine Txt.tl_rowN (n := 32) (ty := 35) (by rfl) (by rfl) (by rfl) (HM.out.range 5 rfl) (by kernel_rfl) (by rw [List.length_map]; exact HU.out) ?_; simp only [Act.put, List.setIfInBounds_toArray, List.set_cons_zero, List.set_cons_succ]) | (refine Txt.tl_rowN (n := 34) (ty := 124) (by rfl) (by rfl) (by rfl) (HM.out.range 6 rfl) (by kernel_rfl) (ne_len x) ?_; simp only [Act.put, List.setIfInBounds_toArray, List.set_cons_zero, List.set_cons_succ])))
          refine Txt.tl_loud (by rfl) ?_
          refine Mp.wp_put idKey Try.underlying93 rfl rfl (HM.out.get 1 rfl) HU.out rfl (v := fN x) rfl ?_
          rw [put_N (HM.out.get 1 rfl) u x]
          intro w8 h8 k8
          have HM : Hid _ := M.setMap HM.out 1 rfl h8 k8
          clear h8 k8 c0
          refine ⟨trivial, ?_⟩
          simp only [Act.put, List.setIfInBounds_toArray, List.set_cons_zero, List.set_cons_succ]
          refine Txt.tl_nil ?_
          go_wp2
          go_end0
          refine ⟨rfl, v6, ?_⟩
          unfold insN
          rw [Hct.out]
          exact STo.of (HM.out.take 5)
    · have hkr : rn ≤ k := by omega
      have Hct : Hid (cutN N x.h u rl = k) := cut_at (by rw [HL.out]; omega) HNo.out (fun y' hy' => by have := (List.getElem?_eq_some_iff.1 hy').1; rw [HL.out] at this; omega)
      have hlt' : ¬ ((k : Int) < (rn : Int)) := by omega
      clear HNo
      go_wp2
      refine Txt.wp_region_text (fun _ => True) [0, 0, 0, 0, 0, 0, 1, 1, 0, 0, 0, 1, 0, 0, 0, 1, 1, 0, 0, 0, 0, 1, 4, 0] (by kernel_rfl) (by kernel_rfl) trivial ?_
      (repeat (first | (refine Txt.tl_pure (v := ?_) (by rfl) ?_ ?_; rotate_left; (focus (intro _; go_simp; try with_reducible rfl)); simp only [Act.put, List.setIfInBounds_toArray, List.set_cons_zero, List.set_cons_succ]) | (refine Txt.tl_skip (by rfl) trivial ?_; simp only [Act.put, List.setIfInBounds_toArray, List.set_cons_zero, List.set_cons_succ])))
      refine Txt.tl_nil ?_
      go_wp2
      rcases HRa.out with ⟨e1, e2, e3⟩ | ⟨⟨g, eg⟩, hnc, hcm⟩
      · subst e1 e2 e3
        obtain rfl : k = 0 := by omega
        have c1 := HM.out.drew.cell 0 rfl 1 (v := .map (some bb)) rfl
        have HRl : Hid (rl = []) := List.eq_nil_of_length_eq_zero HL.out
        have A1 : Hid (At w none 0 (rl.take 0)) := iempty
        have A2 : Hid (At w none 0 (rl.drop 0)) := by rw [HRl.out]; exact iempty
        refine Txt.wp_region_text (fun w' => w'.cell? ⟨b, 1, none⟩ = some (.map (some bb)) ∧ w'.rangeAt (w.heap.size + 1) 1 (x.r.map bv)) [0, 0, 0, 2, 0, 2, 0, 0, 0, 0, 1, 3, 0, 0, 0, 3, 4, 4] (by kernel_rfl) (by kernel_rfl) ⟨c1, ne_rng (HM.out.drew.get 6 rfl)⟩ ?_
        clear c1
        (repeat (first | (refine Txt.tl_pure (v := ?_) (by rfl) ?_ ?_; rotate_left; (focus (intro _; go_simp; try with_reducible rfl)); simp only [Act.put, List.setIfInBounds_toArray, List.set_cons_zero, List.set_cons_succ]) | (refine Txt.tl_loadS (v := .map (some bb)) (by rfl) (by rfl) (by rfl) (by kernel_rfl) (fun _ h => h.1) ?_; simp only [Act.put, List.setIfInBounds_toArray, List.set_cons_zero, List.set_cons_succ]) | (refine Txt.tl_rowSN (n := 32) (ty := 35) (by rfl) (by rfl) (by rfl) (fun _ h => h.2) (by kernel_rfl) (by rw [List.length_map]; exact HR.out) ?_; simp only [Act.put, List.setIfInBounds_toArray, List.set_cons_zero, List.set_cons_succ]) | (refine Txt.tl_rowN (n := 32) (ty := 35) (by rfl) (by rfl) (by rfl) (HM.out.range 5 rfl) (by kernel_rfl) (by rw [List.length_map]; exact HU.out) ?_; simp only [Act.put, List.setIfInBounds_toArray, List.set_cons_zero, List.set_cons_succ])))
        refine Txt.tl_alloc (by rfl) ?_
        refine St.wp_build slId (by decide) rfl (by rw [List.length_map]; exact HU.out) rfl ?_
        have HMa : Hid _ := HM.out.drew.alloc (.cells (u.map bv).toArray 35) rfl
        have HM : Hid _ := HM.out.alloc (.cells (u.map bv).toArray 35) rfl
        have KW : Hid _ := KW.out.alloc (.cells (u.map bv).toArray 35)
        refine ⟨⟨Txt.Le.alloc _ _, HMa.out.cell 0 rfl 1 rfl, ne_rng (HMa.out.get 6 rfl)⟩, ?_⟩
        simp only [Act.put, List.setIfInBounds_toArray, List.set_cons_zero, List.set_cons_succ]
        clear HMa
        (repeat (first | (refine Txt.tl_pure (v := ?_) (by rfl) ?_ ?_; rotate_left; (focus (intro _; go_simp; try with_reducible rfl)); simp only [Act.put, List.setIfInBounds_toArray, List.set_cons_zero, List.set_cons_succ]) | (refine Txt.tl_loadS (v := .map (some bb)) (by rfl) (by rfl) (by rfl) (by kernel_rfl) (fun _ h => h.1) ?_; simp only [Act.put, List.setIfInBounds_toArray, List.set_cons_zero, List.set_cons_succ]) | (refine Txt.tl_rowSN (n := 32) (ty := 35) (by rfl) (by rfl) (by rfl) (fun _ h => h.2) (by kernel_rfl) (by rw [List.length_map]; exact HR.out) ?_; simp only [Act.put, List.setIfInBounds_toArray, List.set_cons_zero, List.set_cons_succ]) | (refine Txt.tl_rowN (n := 32) (ty := 35) (by rfl) (by rfl) (by rfl) (HM.out.range 5 rfl) (by kernel_rfl) (by rw [List.length_map]; exact HU.out) ?_; simp only [Act.put, List.setIfInBounds_toArray, List.set_cons_zero, List.set_cons_succ])))
        refine Txt.tl_alloc (by rfl) ?_
        go_simp
        have HM : Hid _ := (HM.out.alloc (.cells #[.slice (none) 0 0, .slice (some ⟨(wr).heap.size, 0, none⟩) 1 1, .slice (none) (0) (0)] 29) (b := (wr).heap.size + 1) (by simp)).drew
        have KW : Hid _ := (KW.out.alloc (.cells #[.slice (none) 0 0, .slice (some ⟨(wr).heap.size, 0, none⟩) 1 1, .slice (none) (0) (0)] 29)).drew
        refine ⟨⟨by first | exact Txt.Le.alloc_drew _ _ | exact Txt.Le.alloc _ _, HM.out.cell 0 rfl 1 rfl, ne_rng (HM.out.get 6 rfl)⟩, ?_⟩
        (repeat (first | (refine Txt.tl_pure (v := ?_) (by rfl) ?_ ?_; rotate_left; (focus (intro _; go_simp; try with_reducible rfl)); simp only [Act.put, List.setIfInBounds_toArray, List.set_cons_zero, List.set_cons_succ]) | (refine Txt.tl_skip (by rfl) trivial ?_; simp only [Act.put, List.setIfInBounds_toArray, List.set_cons_zero, List.set_cons_succ])))
        refine Txt.tl_call Try.func115 (by kernel_rfl) (by kernel_rfl) (by rfl) (by rfl) (by rfl) (concat3 _ ((wr).heap.size + 1) 0 0 1 1 (0) (0) (none) (some ⟨(wr).heap.size, 0, none⟩) (none) (rl.take 0) [u] (rl.drop 0) (HM.out.get 8 rfl) (A1.out.calm KW.out) (iat1 (HM.out.get 7 rfl) HU.out) (A2.out.calm KW.out) (by omega)) ?_
        rintro e w6 ⟨v6, rfl, n6⟩
        have HM : Hid _ := beh_put HM.out 4 rfl x.r n6
        have KW : Hid _ := KW.out.trans n6.2.1
        clear n6
        refine ⟨_, rfl, ⟨HM.out.cell 0 rfl 1 rfl, ne_rng (HM.out.get 6 rfl)⟩, ?_⟩
        simp only [Act.put, List.setIfInBounds_toArray, List.set_cons_zero, List.set_cons_succ]
        refine Txt.tl_loud (by rfl) ?_
        refine Mp.wp_put idKey Try.underlying94 rfl rfl (HM.out.get 2 rfl) HR.out rfl (v := v6) rfl ?_
        rw [put_B (HM.out.get 2 rfl) x.r v6 (rl.take 0 ++ [u] ++ rl.drop 0)]
        intro w7 h7 k7
        have HM : Hid _ := M.setMap HM.out 2 rfl h7 k7
        clear h7 k7
        refine ⟨⟨HM.out.cell 0 rfl 1 rfl, ne_rng (HM.out.get 6 rfl)⟩, ?_⟩
        simp only [Act.put, List.setIfInBounds_toArray, List.set_cons_zero, List.set_cons_succ]
        refine Txt.tl_nil ?_
        go_wp2
        have HM : Hid _ := HM.out.drew
        have c0 := HM.out.cell 0 rfl 0 (v := .map (some bn)) rfl
        refine Txt.wp_region_text (fun _ => True) [0, 0, 0, 1, 1, 1, 4] (by kernel_rfl) (by kernel_rfl) trivial ?_
        (repeat (first | (refine Txt.tl_pure (v := ?_) (by rfl) ?_ ?_; rotate_left; (focus (intro _; go_simp; try with_reducible rfl)); simp only [Act.put, List.setIfInBounds_toArray, List.set_cons_zero, List.set_cons_succ]) | (refine Txt.tl_load (v := ?_) (by rfl) (by rfl) (by rfl) (by kernel_rfl) ?_ ?_; rotate_left; (focus assumption); simp only [Act.put, List.setIfInBounds_toArray, List.set_cons_zero, List.set_cons_succ]) | (refine Txt.tl_rowN (n := 32) (ty := 35) (by rfl) (by rfl) (by rfl) (HM.out.range 5 rfl) (by kernel_rfl) (by rw [List.length_map]; exact HU.out) ?_; simp only [Act.put, List.setIfInBounds_toArray, List.set_cons_zero, List.set_cons_succ]) | (refine Txt.tl_rowN (n := 34) (ty := 124) (by rfl) (by rfl) (by rfl) (HM.out.range 6 rfl) (by kernel_rfl) (ne_len x) ?_; simp only [Act.put, List.setIfInBounds_toArray, List.set_cons_zero, List.set_cons_succ])))
        refine Txt.tl_loud (by rfl) ?_
        refine Mp.wp_put idKey Try.underlying93 rfl rfl (HM.out.get 1 rfl) HU.out rfl (v := fN x) rfl ?_
        rw [put_N (HM.out.get 1 rfl) u x]
        intro w8 h8 k8
        have HM : Hid _ := M.setMap HM.out 1 rfl h8 k8
        clear h8 k8 c0
        refine ⟨trivial, ?_⟩
        simp only [Act.put, List.setIfInBounds_toArray, List.set_cons_zero, List.set_cons_succ]
        refine Txt.tl_nil ?_
        go_wp2
        go_end0
        refine ⟨rfl, v6, ?_⟩
        unfold insN
        rw [Hct.out]
        exact STo.of (HM.out.take 5)
      · subst eg
        have hkn : (k : Int) ≤ (rn : Int) := by omega
        have hkc : (k : Int) ≤ (rc : Int) := by omega
        have hnc' : (rn : Int) ≤ (rc : Int) := by omega
        have c1 := HM.out.drew.cell 0 rfl 1 (v := .map (some bb)) rfl
        have A1 : Hid (At w (some ⟨g, 0, none⟩) k (rl.take k)) := icut HAt.out k (by omega)
        refine Txt.wp_region_text (fun w' => w'.cell? ⟨b, 1, none⟩ = some (.map (some bb)) ∧ w'.rangeAt (w.heap.size + 1) 1 (x.r.map bv)) [0, 0, 0, 2, 0, 2, 0, 0, 0, 0, 1, 3, 0, 0, 0, 3, 4, 4] (by kernel_rfl) (by kernel_rfl) ⟨c1, ne_rng (HM.out.drew.get 6 rfl)⟩ ?_
        clear c1
        by_cases hcp : rc = k
        · have A2 : Hid (At w (some ⟨g, 0, none⟩) 0 (rl.drop k)) := by rw [List.drop_eq_nil_of_le (by rw [HL.out]; omega)]; exact iempty
          obtain rfl : k = rn := by omega
          subst hcp
          (repeat (first | (refine Txt.tl_pure (v := ?_) (by rfl) ?_ ?_; rotate_left; (focus (intro _; go_simp; try with_reducible rfl)); simp only [Act.put, List.setIfInBounds_toArray, List.set_cons_zero, List.set_cons_succ]) | (refine Txt.tl_loadS (v := .map (some bb)) (by rfl) (by rfl) (by rfl) (by kernel_rfl) (fun _ h => h.1) ?_; simp only [Act.put, List.setIfInBounds_toArray, List.set_cons_zero, List.set_cons_succ]) | (refine Txt.tl_rowSN (n := 32) (ty := 35) (by rfl) (by rfl) (by rfl) (fun _ h => h.2) (by kernel_rfl) (by rw [List.length_map]; exact HR.out) ?_; simp only [Act.put, List.setIfInBounds_toArray, List.set_cons_zero, List.set_cons_succ]) | (refine Txt.tl_rowN (n := 32) (ty := 35) (by rfl) (by rfl) (by rfl) (HM.out.range 5 rfl) (by kernel_rfl) (by rw [List.length_map]; exact HU.out) ?_; simp only [Act.put, List.setIfInBounds_toArray, List.set_cons_zero, List.set_cons_succ])))
          refine Txt.tl_alloc (by rfl) ?_
          refine St.wp_build slId (by decide) rfl (by rw [List.length_map]; exact HU.out) rfl ?_
          have HMa : Hid _ := HM.out.drew.alloc (.cells (u.map bv).toArray 35) rfl
          have HM : Hid _ := HM.out.alloc (.cells (u.map bv).toArray 35) rfl
          have KW : Hid _ := KW.out.alloc (.cells (u.map bv).toArray 35)
          refine ⟨⟨Txt.Le.alloc _ _, HMa.out.cell 0 rfl 1 rfl, ne_rng (HMa.out.get 6 rfl)⟩, ?_⟩
          simp only [Act.put, List.setIfInBounds_toArray, List.set_cons_zero, List.set_cons_succ]
          clear HMa
          (repeat (first | (refine Txt.tl_pure (v := ?_) (by rfl) ?_ ?_; rotate_left; (focus (intro _; go_simp; try with_reducible rfl)); simp only [Act.put, List.setIfInBounds_toArray, List.set_cons_zero, List.set_cons_succ]) | (refine Txt.tl_loadS (v := .map (some bb)) (by rfl) (by rfl) (by rfl) (by kernel_rfl) (fun _ h => h.1) ?_; simp only [Act.put, List.setIfInBounds_toArray, List.set_cons_zero, List.set_cons_succ]) | (refine Txt.tl_rowSN (n := 32) (ty := 35) (by rfl) (by rfl) (by rfl) (fun _ h => h.2) (by kernel_rfl) (by rw [List.length_map]; exact HR.out) ?_; simp only [Act.put, List.setIfInBounds_toArray, List.set_cons_zero, List.set_cons_succ]) | (refine Txt.tl_rowN (n := 32) (ty := 35) (by rfl) (by rfl) (by rfl) (HM.out.range 5 rfl) (by kernel_rfl) (by rw [List.length_map]; exact HU.out) ?_; simp only [Act.put, List.setIfInBounds_toArray, List.set_cons_zero, List.set_cons_succ])))
          refine Txt.tl_alloc (by rfl) ?_
          go_simp
          have HM : Hid _ := (HM.out.alloc (.cells #[.slice (some ⟨g, 0, none⟩) rc rc, .slice (some ⟨(wr).heap.size, 0, none⟩) 1 1, .slice (some ⟨g, 0, none⟩) (0) (0)] 29) (b := (wr).heap.size + 1) (by simp)).drew
          have KW : Hid _ := (KW.out.alloc (.cells #[.slice (some ⟨g, 0, none⟩) rc rc, .slice (some ⟨(wr).heap.size, 0, none⟩) 1 1, .slice (some ⟨g, 0, none⟩) (0) (0)] 29)).drew
          refine ⟨⟨by first | exact Txt.Le.alloc_drew _ _ | exact Txt.Le.alloc _ _, HM.out.cell 0 rfl 1 rfl, ne_rng (HM.out.get 6 rfl)⟩, ?_⟩
          (repeat (first | (refine Txt.tl_pure (v := ?_) (by rfl) ?_ ?_; rotate_left; (focus (intro _; go_simp; try with_reducible rfl)); simp only [Act.put, List.setIfInBounds_toArray, List.set_cons_zero, List.set_cons_succ]) | (refine Txt.tl_skip (by rfl) trivial ?_; simp only [Act.put, List.setIfInBounds_toArray, List.set_cons_zero, List.set_cons_succ])))
          refine Txt.tl_call Try.func115 (by kernel_rfl) (by kernel_rfl) (by rfl) (by rfl) (by rfl) (concat3 _ ((wr).heap.size + 1) rc rc 1 1 (0) (0) (some ⟨g, 0, none⟩) (some ⟨(wr).heap.size, 0, none⟩) (some ⟨g, 0, none⟩) (rl.take rc) [u] (rl.drop rc) (HM.out.get 8 rfl) (A1.out.calm KW.out) (iat1 (HM.out.get 7 rfl) HU.out) (A2.out.calm KW.out) (by omega)) ?_
          rintro e w6 ⟨v6, rfl, n6⟩
          have HM : Hid _ := beh_put HM.out 4 rfl x.r n6
          have KW : Hid _ := KW.out.trans n6.2.1
          clear n6
          refine ⟨_, rfl, ⟨HM.out.cell 0 rfl 1 rfl, ne_rng (HM.out.get 6 rfl)⟩, ?_⟩
          simp only [Act.put, List.setIfInBounds_toArray, List.set_cons_zero, List.set_cons_succ]
          refine Txt.tl_loud (by rfl) ?_
          refine Mp.wp_put idKey Try.underlying94 rfl rfl (HM.out.get 2 rfl) HR.out rfl (v := v6) rfl ?_
          rw [put_B (HM.out.get 2 rfl) x.r v6 (rl.take rc ++ [u] ++ rl.drop rc)]
          intro w7 h7 k7
          have HM : Hid _ := M.setMap HM.out 2 rfl h7 k7
          clear h7 k7
          refine ⟨⟨HM.out.cell 0 rfl 1 rfl, ne_rng (HM.out.get 6 rfl)⟩, ?_⟩
          simp only [Act.put, List.setIfInBounds_toArray, List.set_cons_zero, List.set_cons_succ]
          refine Txt.tl_nil ?_
          go_wp2
          have HM : Hid _ := HM.out.drew
          have c0 := HM.out.cell 0 rfl 0 (v := .map (some bn)) rfl
          refine Txt.wp_region_text (fun _ => True) [0, 0, 0, 1, 1, 1, 4] (by kernel_rfl) (by kernel_rfl) trivial ?_
          (repeat (first | (refine Txt.tl_pure (v := ?_) (by rfl) ?_ ?_; rotate_left; (focus (intro _; go_simp; try with_reducible rfl)); simp only [Act.put, List.setIfInBounds_toArray, List.set_cons_zero, List.set_cons_succ]) | (refine Txt.tl_load (v := ?_) (by rfl) (by rfl) (by rfl) (by kernel_rfl) ?_ ?_; rotate_left; (focus assumption); simp only [Act.put, List.setIfInBounds_toArray, List.set_cons_zero, List.set_cons_succ]) | (refine Txt.tl_rowN (n := 32) (ty := 35) (by rfl) (by rfl) (by rfl) (HM.out.range 5 rfl) (by kernel_rfl) (by rw [List.length_map]; exact HU.out) ?_; simp only [Act.put, List.setIfInBounds_toArray, List.set_cons_zero, List.set_cons_succ]) | (refine Txt.tl_rowN (n := 34) (ty := 124) (by rfl) (by rfl) (by rfl) (HM.out.range 6 rfl) (by kernel_rfl) (ne_len x) ?_; simp only [Act.put, List.setIfInBounds_toArray, List.set_cons_zero, List.set_cons_succ])))
          refine Txt.tl_loud (by rfl) ?_
          refine Mp.wp_put idKey Try.underlying93 rfl rfl (HM.out.get 1 rfl) HU.out rfl (v := fN x) rfl ?_
          rw [put_N (HM.out.get 1 rfl) u x]
          intro w8 h8 k8
          have HM : Hid _ := M.setMap HM.out 1 rfl h8 k8
          clear h8 k8 c0
          refine ⟨trivial, ?_⟩
          simp only [Act.put, List.setIfInBounds_toArray, List.set_cons_zero, List.set_cons_succ]
          refine Txt.tl_nil ?_
          go_wp2
          go_end0
          refine ⟨rfl, v6, ?_⟩
          unfold insN
          rw [Hct.out]
          exact STo.of (HM.out.take 5)
        · have A2 : Hid (At w (some ⟨g, k * 32, none⟩) 0 (rl.drop k)) := by rw [List.drop_eq_nil_of_le (by rw [HL.out]; omega)]; exact iempty
          (repeat (first | (refine Txt.tl_pure (v := ?_) (by rfl) ?_ ?_; rotate_left; (focus (intro _; go_simp; try with_reducible rfl)); simp only [Act.put, List.setIfInBounds_toArray, List.set_cons_zero, List.set_cons_succ]) | (refine Txt.tl_loadS (v := .map (some bb)) (by rfl) (by rfl) (by rfl) (by kernel_rfl) (fun _ h => h.1) ?_; simp only [Act.put, List.setIfInBounds_toArray, List.set_cons_zero, List.set_cons_succ]) | (refine Txt.tl_rowSN (n := 32) (ty := 35) (by rfl) (by rfl) (by rfl) (fun _ h => h.2) (by kernel_rfl) (by rw [List.length_map]; exact HR.out) ?_; simp only [Act.put, List.setIfInBounds_toArray, List.set_cons_zero, List.set_cons_succ]) | (refine Txt.tl_rowN (n := 32) (ty := 35) (by rfl) (by rfl) (by rfl) (HM.out.range 5 rfl) (by kernel_rfl) (by rw [List.length_map]; exact HU.out) ?_; simp only [Act.put, List.setIfInBounds_toArray, List.set_cons_zero, List.set_cons_succ])))
          refine Txt.tl_alloc (by rfl) ?_
          refine St.wp_build slId (by decide) rfl (by rw [List.length_map]; exact HU.out) rfl ?_
          have HMa : Hid _ := HM.out.drew.alloc (.cells (u.map bv).toArray 35) rfl
          have HM : Hid _ := HM.out.alloc (.cells (u.map bv).toArray 35) rfl
          have KW : Hid _ := KW.out.alloc (.cells (u.map bv).toArray 35)
          refine ⟨⟨Txt.Le.alloc _ _, HMa.out.cell 0 rfl 1 rfl, ne_rng (HMa.out.get 6 rfl)⟩, ?_⟩
          simp only [Act.put, List.setIfInBounds_toArray, List.set_cons_zero, List.set_cons_succ]
          clear HMa
          (repeat (first | (refine Txt.tl_pure (v := ?_) (by rfl) ?_ ?_; rotate_left; (focus (intro _; go_simp; try with_reducible rfl)); simp only [Act.put, List.setIfInBounds_toArray, List.set_cons_zero, List.set_cons_succ]) | (refine Txt.tl_loadS (v := .map (some bb)) (by rfl) (by rfl) (by rfl) (by kernel_rfl) (fun _ h => h.1) ?_; simp only [Act.put, List.setIfInBounds_toArray, List.set_cons_zero, List.set_cons_succ]) | (refine Txt.tl_rowSN (n := 32) (ty := 35) (by rfl) (by rfl) (by rfl) (fun _ h => h.2) (by kernel_rfl) (by rw [List.length_map]; exact HR.out) ?_; simp only [Act.put, List.setIfInBounds_toArray, List.set_cons_zero, List.set_cons_succ]) | (refine Txt.tl_rowN (n := 32) (ty := 35) (by rfl) (by rfl) (by rfl) (HM.out.range 5 rfl) (by kernel_rfl) (by rw [List.length_map]; exact HU.out) ?_; simp only [Act.put, List.setIfInBounds_toArray, List.set_cons_zero, List.set_cons_succ])))
          refine Txt.tl_alloc (by rfl) ?_
          go_simp
          have HM : Hid _ := (HM.out.alloc (.cells #[.slice (some ⟨g, 0, none⟩) k k, .slice (some ⟨(wr).heap.size, 0, none⟩) 1 1, .slice (some ⟨g, k * 32, none⟩) (0) (rc - k)] 29) (b := (wr).heap.size + 1) (by simp)).drew
          have KW : Hid _ := (KW.out.alloc (.cells #[.slice (some ⟨g, 0, none⟩) k k, .slice (some ⟨(wr).heap.size, 0, none⟩) 1 1, .slice (some ⟨g, k * 32, none⟩) (0) (rc - k)] 29)).drew
          refine ⟨⟨by first | exact Txt.Le.alloc_drew _ _ | exact Txt.Le.alloc _ _, HM.out.cell 0 rfl 1 rfl, ne_rng (HM.out.get 6 rfl)⟩, ?_⟩
          (repeat (first | (refine Txt.tl_pure (v := ?_) (by rfl) ?_ ?_; rotate_left; (focus (intro _; go_simp; try with_reducible rfl)); simp only [Act.put, List.setIfInBounds_toArray, List.set_cons_zero, List.set_cons_succ]) | (refine Txt.tl_skip (by rfl) trivial ?_; simp only [Act.put, List.setIfInBounds_toArray, List.set_cons_zero, List.set_cons_succ])))
          refine Txt.tl_call Try.func115 (by kernel_rfl) (by kernel_rfl) (by rfl) (by rfl) (by rfl) (concat3 _ ((wr).heap.size + 1) k k 1 1 (0) (rc - k) (some ⟨g, 0, none⟩) (some ⟨(wr).heap.size, 0, none⟩) (some ⟨g, k * 32, none⟩) (rl.take k) [u] (rl.drop k) (HM.out.get 8 rfl) (A1.out.calm KW.out) (iat1 (HM.out.get 7 rfl) HU.out) (A2.out.calm KW.out) (by omega)) ?_
          rintro e w6 ⟨v6, rfl, n6⟩
          have HM : Hid _ := beh_put HM.out 4 rfl x.r n6
          have KW : Hid _ := KW.out.trans n6.2.1
          clear n6
          refine ⟨_, rfl, ⟨HM.out.cell 0 rfl 1 rfl, ne_rng (HM.out.get 6 rfl)⟩, ?_⟩
          simp only [Act.put, List.setIfInBounds_toArray, List.set_cons_zero, List.set_cons_succ]
          refine Txt.tl_loud (by rfl) ?_
          refine Mp.wp_put idKey Try.underlying94 rfl rfl (HM.out.get 2 rfl) HR.out rfl (v := v6) rfl ?_
          rw [put_B (HM.out.get 2 rfl) x.r v6 (rl.take k ++ [u] ++ rl.drop k)]
          intro w7 h7 k7
          have HM : Hid _ := M.setMap HM.out 2 rfl h7 k7
          clear h7 k7
          refine ⟨⟨HM.out.cell 0 rfl 1 rfl, ne_rng (HM.out.get 6 rfl)⟩, ?_⟩
          simp only [Act.put, List.setIfInBounds_toArray, List.set_cons_zero, List.set_cons_succ]
          refine Txt.tl_nil ?_
          go_wp2
          have HM : Hid _ := HM.out.drew
          have c0 := HM.out.cell 0 rfl 0 (v := .map (some bn)) rfl
          refine Txt.wp_region_text (fun _ => True) [0, 0, 0, 1, 1, 1, 4] (by kernel_rfl) (by kernel_rfl) trivial ?_
          (repeat (first | (refine Txt.tl_pure (v := ?_) (by rfl) ?_ ?_; rotate_left; (focus (intro _; go_simp; try with_reducible rfl)); simp only [Act.put, List.setIfInBounds_toArray, List.set_cons_zero, List.set_cons_succ]) | (refine Txt.tl_load (v := ?_) (by rfl) (by rfl) (by rfl) (by kernel_rfl) ?_ ?_; rotate_left; (focus assumption); simp only [Act.put, List.setIfInBounds_toArray, List.set_cons_zero, List.set_cons_succ]) | (refine Txt.tl_rowN (n := 32) (ty := 35) (by rfl) (by rfl) (by rfl) (HM.out.range 5 rfl) (by kernel_rfl) (by rw [List.length_map]; exact HU.out) ?_; simp only [Act.put, List.setIfInBounds_toArray, List.set_cons_zero, List.set_cons_succ]) | (refine Txt.tl_rowN (n := 34) (ty := 124) (by rfl) (by rfl) (by rfl) (HM.out.range 6 rfl) (by kernel_rfl) (ne_len x) ?_; simp only [Act.put, List.setIfInBounds_toArray, List.set_cons_zero, List.set_cons_succ])))
          refine Txt.tl_loud (by rfl) ?_
          refine Mp.wp_put idKey Try.underlying93 rfl rfl (HM.out.get 1 rfl) HU.out rfl (v := fN x) rfl ?_
          rw [put_N (HM.out.get 1 rfl) u x]
          intro w8 h8 k8
          have HM : Hid _ := M.setMap HM.out 1 rfl h8 k8
          clear h8 k8 c0
          refine ⟨trivial, ?_⟩
          simp only [Act.put, List.setIfInBounds_toArray, List.set_cons_zero, List.set_cons_succ]
          refine Txt.tl_nil ?_
          go_wp2
          go_end0
          refine ⟨rfl, v6, ?_⟩
          unfold insN
          rw [Hct.out]
          exact STo.of (HM.out.take 5)
end Sq
end Go.Proofs.Ytgpimeobkacniaa
