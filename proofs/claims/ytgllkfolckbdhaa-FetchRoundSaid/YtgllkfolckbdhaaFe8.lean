/-
  fetch: fill.
-/
import Derived.Test.YtgllkfolckbdhaaFe7
import Derived.WalkMore
set_option linter.unusedVariables false
set_option linter.unusedSimpArgs false
namespace Go.Proofs.Ytgllkfolckbdhaa
open Go.RowKit
namespace Fe
open Oct Ids Mp
open Mem (M It blk ids rows)
theorem fold_set : ∀ (cs : List Value) (off j : Nat) (cells : List Value), off + j + cs.length ≤ cells.length →
    ((cs.zipIdx j).foldl (fun (a : Array Value) (p : Value × Nat) => a.setIfInBounds (off + p.2) p.1) cells.toArray) = (cells.take (off + j) ++ cs ++ cells.drop (off + j + cs.length)).toArray
  | [], off, j, cells, h => by simp
  | c :: cs, off, j, cells, h => by
    simp only [List.length_cons] at h
    rw [List.zipIdx_cons, List.foldl_cons, List.setIfInBounds_toArray, fold_set cs off (j + 1) (cells.set (off + j) c) (by rw [List.length_set]; omega)]
    refine congrArg List.toArray ?_
    have hlt : off + j < cells.length := by omega
    have e1 : (cells.set (off + j) c).take (off + (j + 1)) = cells.take (off + j) ++ [c] := by
      rw [show off + (j + 1) = off + j + 1 by omega, List.take_add_one, List.take_set_of_le (Nat.le_refl _), List.getElem?_set_self hlt]
      rfl
    have e2 : (cells.set (off + j) c).drop (off + (j + 1) + cs.length) = cells.drop (off + j + (c :: cs).length) := by
      rw [List.drop_set_of_lt (by omega), List.length_cons]
      congr 1; omega
    rw [e1, e2]
    simp
theorem fill_cons {place : Nat → Option (Nat × Nat)} {cells : List Value} {i off size : Nat} {v : Value} {rest : List (Nat × Value)} {cs : List Value} (hp : place i = some (off, size)) (hv : v.cells = cs.toArray) (hs : cs.length = size) (hb : off + size ≤ cells.length) :
    Instr.fill place cells.toArray ((i, v) :: rest) = Instr.fill place (cells.take off ++ cs ++ cells.drop (off + size)).toArray rest := by
  have h1 : ¬ ((v.cells.size ≠ size || off + v.cells.size > cells.toArray.size) = true) := by
    rw [hv]
    simp [hs]
    omega
  rw [Instr.fill]
  simp only [hp]
  rw [if_neg h1, hv]
  have := fold_set cs off 0 cells (by omega)
  rw [Nat.add_zero, hs] at this
  rw [← this]
  simp
/-- One thing as its parts. -/
theorem unpack {F : Nat → Prop} {w0 w : World} {l s : List It} {z : It} (h : M F w0 w (l ++ [z])) (hs : ∀ (i : Nat) (x : It), s[i]? = some x → x.holds w) (hd : ∀ (i j : Nat) (x y : It), s[i]? = some x → s[j]? = some y → i ≠ j → ∀ k, x.foot k → ¬ y.foot k) (hf : ∀ (i : Nat) (x : It), s[i]? = some x → ∀ k, x.foot k → z.foot k) : M F w0 w (l ++ s) := by
  have iz : (l ++ [z])[l.length]? = some z := by simp
  have at_ : ∀ (i : Nat) (u : It), (l ++ s)[i]? = some u → ((l ++ [z])[i]? = some u ∧ i < l.length) ∨ (s[i - l.length]? = some u ∧ l.length ≤ i) := by
    intro i u hi
    rcases Nat.lt_or_ge i l.length with hlt | hge
    · rw [List.getElem?_append_left hlt] at hi
      exact .inl ⟨by rw [List.getElem?_append_left hlt]; exact hi, hlt⟩
    · rw [List.getElem?_append_right hge] at hi
      exact .inr ⟨hi, hge⟩
  refine ⟨fun i u hi => ?_, fun i j u v hi hj hij k hu hv => ?_, fun i u hi k hk => ?_, h.keep⟩
  · rcases at_ i u hi with ⟨h1, _⟩ | ⟨h1, _⟩
    · exact h.all i u h1
    · exact hs _ u h1
  · rcases at_ i u hi with ⟨h1, e1⟩ | ⟨h1, e1⟩ <;> rcases at_ j v hj with ⟨h2, e2⟩ | ⟨h2, e2⟩
    · exact h.dis i j u v h1 h2 hij k hu hv
    · exact h.dis i l.length u z h1 iz (by omega) k hu (hf _ v h2 k hv)
    · exact h.dis j l.length v z h2 iz (by omega) k hv (hf _ u h1 k hu)
    · exact hd _ _ u v h1 h2 (by omega) k hu hv
  · rcases at_ i u hi with ⟨h1, _⟩ | ⟨h1, _⟩
    · exact h.rng i u h1 k hk
    · exact h.rng _ z iz k (hf _ u h1 k hk)
theorem unpackF {F : Nat → Prop} {w0 w : World} {l : List It} {b b2 : Nat} {lv hv : Value} {L : List Fd} {H : List Wd} {at_ : Int} {S : List Int} {sf : Int} (h : M F w0 w (l ++ [ftI b b2 lv hv L H at_ S sf])) : M F w0 w (l ++ fit b b2 lv hv L H at_ S sf) := by
  have hf : FAt w b b2 lv hv L H at_ S sf := h.get l.length (x := ftI b b2 lv hv L H at_ S sf) (by simp)
  exact unpack h hf.all.all hf.all.dis (fun i x hi k hk => ffoot_of hi hk)
/-- A new fetching. -/
def newF (u : Wd) (hu : u.length = 32) (now : Int) : Fd := ⟨u, hu, -1, now, 0, false, false⟩
theorem built_F (parts : List (Nat × Value)) : Try.prog.built 39 parts = Instr.fill (fun i => #[(0, 32), (32, 1), (33, 1), (34, 1), (35, 1), (36, 1)][i]?) fz parts := by kernel_rfl
theorem built_fe (u : Wd) (hu : u.length = 32) (now : Int) : Try.prog.built 39 [(0, idv u), (1, .int .i64 (-1)), (2, .int .i64 now)] = some (fe (newF u hu now)).toArray := by
  have hz : fz = ((List.replicate 32 (0 : UInt8)).map bv ++ [Value.int .i64 0, .int .i64 0, .int .i64 0, .bool false, .bool false]).toArray := rfl
  have l32 : (u.map bv).length = 32 := by rw [List.length_map, hu]
  have hU : (u.map bv) = u.map bv := rfl
  unfold fe newF
  simp only
  rw [built_F, hz, fill_cons (off := 0) (size := 32) (cs := u.map bv) rfl rfl l32 (by decide)]
  generalize u.map bv = U at l32 ⊢
  rw [List.take_zero, List.nil_append, List.drop_left' (by rfl)]
  rw [fill_cons (off := 32) (size := 1) (cs := [.int .i64 (-1)]) rfl rfl rfl (by rw [List.length_append, l32]; decide)]
  rw [List.take_left' l32, ← List.drop_drop, List.drop_left' l32]
  rw [fill_cons (off := 33) (size := 1) (cs := [.int .i64 now]) rfl rfl rfl (by simp [l32])]
  have l33 : (U ++ [Value.int .i64 (-1)]).length = 33 := by rw [List.length_append, l32]; rfl
  rw [List.take_left' l33, ← List.drop_drop, List.drop_left' l33, Instr.fill]
  simp
/-- New fetchings, as many as may be. -/
def fillF (ms : List Wd) (now : Int) (n : Nat) : Nat → List Fd → Nat → List Fd × Nat
  | 0, L, a => (L, a)
  | k + 1, L, a => if L.length < 8 then
      match nxt L ms a with
      | none => (L, a)
      | some j => if hu : (ms.getD j []).length = 32 then fillF ms now n k (L ++ [newF (ms.getD j []) hu now]) ((j + 1) % n) else (L, a)
    else (L, a)
theorem fillF_len (ms : List Wd) (now : Int) (n : Nat) : ∀ (k : Nat) (L : List Fd) (a : Nat), L.length ≤ 100 → (fillF ms now n k L a).1.length ≤ 100
  | 0, L, a, h => h
  | k + 1, L, a, h => by
    unfold fillF
    split
    · split
      · exact h
      · split
        · exact fillF_len ms now n k _ _ (by rw [List.length_append, List.length_singleton]; omega)
        · exact h
    · exact h
theorem fillF_full {ms : List Wd} {now : Int} {n k : Nat} {L : List Fd} {a : Nat} (h : ¬ L.length < 8) : fillF ms now n k L a = (L, a) := by
  cases k with
  | zero => rfl
  | succ k => unfold fillF; rw [if_neg h]
theorem fillF_none {ms : List Wd} {now : Int} {n k : Nat} {L : List Fd} {a : Nat} (h : nxt L ms a = none) : fillF ms now n k L a = (L, a) := by
  cases k with
  | zero => rfl
  | succ k =>
    unfold fillF
    rw [h]
    split <;> rfl
theorem fillF_some {ms : List Wd} {now : Int} {n k : Nat} {L : List Fd} {a j : Nat} {u : Wd} (h : nxt L ms a = some j) (hu : ms[j]? = some u) (hl : u.length = 32) (h8 : L.length < 8) : fillF ms now n (k + 1) L a = fillF ms now n k (L ++ [newF u hl now]) ((j + 1) % n) := by
  have e : ms.getD j [] = u := by rw [List.getD, hu]; rfl
  conv => lhs; unfold fillF
  rw [if_pos h8, h]
  simp only
  rw [dif_pos (by rw [e]; exact hl)]
  congr 2
  congr 1
  · unfold newF
    congr 1
set_option maxRecDepth 100000 in
set_option maxHeartbeats 4000000 in
theorem ffill (w : World) (b b2 : Nat) (lv hv : Value) (L : List Fd) (H : List Wd) (at_ : Nat) (S : List Int) (sf : Int) (h : FAt w b b2 lv hv L H at_ S sf) (hL : L.length ≤ 100) (hat : at_ ≤ 1000) (a : Option Addr) (n c : Nat) (ms : List Wd) (hA : At w a n ms) (hn : n ≤ 1000) (hap : Apart b b2 lv hv a n) (hw : ∀ g o, a = some ⟨g, o, none⟩ → n ≠ 0 → g < w.heap.size) (now : Int) (k0 : Nat) (hk0 : 8 ≤ L.length + k0) :
    Calls Try.prog 28 #[.pointer (some ⟨b, 0, none⟩), .slice a n c, .int .i64 now] w fun e w' => e = .returned (.tuple #[]) ∧ ∃ lv', FTo w w' b b2 lv hv lv' hv (fillF ms now n k0 L at_).1 H ((fillF ms now n k0 L at_).2 : Nat) S sf := by
  have HM : Hid (M (ffoot b b2 lv hv) w w (fit b b2 lv hv L H at_ S sf)) := h.all
  have HA : Hid (∀ w', Keep (ffoot b b2 lv hv) w w' → At w' a n ms) := fun w' k => At.keepN hA k hap
  have Hap : Hid (Apart b b2 lv hv a n) := hap
  have HW : Hid (∀ g o, a = some ⟨g, o, none⟩ → n ≠ 0 → g < w.heap.size) := hw
  have HLl : Hid (L.length ≤ 100) := hL
  have Hk0 : Hid (8 ≤ L.length + k0) := hk0
  obtain ⟨R, hR⟩ : ∃ R, fillF ms now n k0 L at_ = R := ⟨_, rfl⟩
  have HR : Hid (fillF ms now n k0 L at_ = R) := hR
  rw [hR]
  clear h hL hA hap hw hk0 hR
  go_enter Try.func28, Try.ntmps28
  go_wp2
  go_step3
  go_wp2
  go_step3
  go_wp2
  go_loopg [7] k0 (fun kx s7 wr => ∃ (L1 : List Fd) (lv1 : Value) (a1 : Nat) (v7 : Value), s7 = v7 ∧ fillF ms now n kx L1 a1 = R ∧ 8 ≤ L1.length + kx ∧ L1.length ≤ 100 ∧ a1 ≤ 1000 ∧ M (ffoot b b2 lv hv) w wr (fit b b2 lv1 hv L1 H a1 S sf))
  case atStart => exact ⟨L, lv, at_, _, rfl, HR.out, Hk0.out, HLl.out, hat, HM.out⟩
  case round =>
    clear HM
    obtain ⟨L1, lv1, a1, v7, e7, hR, h8, hl1, ha1, hM⟩ := hrel
    replace e7 := e7.symm
    subst e7
    have HM : Hid (M (ffoot b b2 lv hv) w wr (fit b b2 lv1 hv L1 H a1 S sf)) := hM
    have HR1 : Hid (fillF ms now n _ L1 a1 = R) := hR
    have H8 : Hid (8 ≤ L1.length + _) := h8
    have HL1 : Hid (L1.length ≤ 100) := hl1
    obtain ⟨la, lc, e1, _⟩ := (show OwnF _ lv1 L1 from HM.out.get 1 rfl).any
    obtain ⟨q, hq⟩ : ∃ q, L1.length = q := ⟨_, rfl⟩
    have Hq : Hid (L1.length = q) := hq
    rw [hq] at e1
    subst e1
    rw [hq] at h8 hl1
    clear hM hR hq
    have c0 := HM.out.cell 0 rfl 0 (v := .slice la q lc) rfl
    have HAp1 : Hid (Apart b b2 (.slice la q lc) hv a n) := fun g o e h0 hf => by
      have hlt := HW.out g o e h0
      rcases hf with hf | hf | hf | hf
      · exact Hap.out g o e h0 (.inl hf)
      · rcases (HM.out.rng 1 _ rfl g hf).1 with h1 | h1
        · omega
        · exact Hap.out g o e h0 h1
      · exact Hap.out g o e h0 (.inr (.inr (.inl hf)))
      · exact Hap.out g o e h0 (.inr (.inr (.inr hf)))
    have HX : Hid (Calls Try.prog 44 #[.pointer (some ⟨b, 0, none⟩), .slice a n c] wr fun e w' =>
      (nxt L1 ms a1 = none ∧ e = .returned (.tuple #[.agg z32, .bool false]) ∧ FTo wr w' b b2 (.slice la q lc) hv (.slice la q lc) hv L1 H a1 S sf) ∨
      ∃ j u, nxt L1 ms a1 = some j ∧ ms[j]? = some u ∧ e = .returned (.tuple #[idv u, .bool true]) ∧ FTo wr w' b b2 (.slice la q lc) hv (.slice la q lc) hv L1 H ((j + 1) % n : Nat) S sf) :=
      fnext wr b b2 _ hv L1 H a1 S sf (mkF HM.out) HL1.out ha1 a n c ms (HA.out wr HM.out.keep) hn HAp1.out
    have HM1 : Hid (M (ffoot b b2 lv hv) w wr [ftI b b2 (.slice la q lc) hv L1 H a1 S sf]) := packF (l := []) HM.out
    by_cases hlt : q < 8
    · clear HM
      go_wp2_with (first | (go_at_call 44; refine HX.out.mono ?_; rintro e w2 (⟨hx, rfl, t2⟩ | ⟨j, u, hx, hu, rfl, t2⟩)) | ((with_reducible refine at_alloc 32 ?_); refine St.wl_alloc tyI rfl rfl (by (try simp only [World.size_alloc]); rfl) ?_; simp only [Act.put, List.setIfInBounds_toArray, List.set_cons_zero, List.set_cons_succ]) | ((with_reducible refine at_store 32 ?_); first | (refine St.wl_storeN (W := w2) tyI rfl rfl rfl rfl rfl (by (try simp only [World.size_alloc])) (show _ = Value.agg z32 from rfl) rfl rfl (one_bv (List.replicate 32 0)) ?_) | (have hus : (u.map bv).toArray.size = 32 := (by rw [List.size_toArray, List.length_map]; exact (HA.out wr (M.keep HM1.out)).size u (List.mem_of_getElem? hu)); refine St.wl_storeN (W := w2) tyI rfl rfl rfl rfl rfl (by (try simp only [World.size_alloc])) (show _ = Value.agg (u.map bv).toArray from rfl) hus rfl (one_bv _) ?_; clear hus)))
      · have HM2 : Hid (M (ffoot b b2 lv hv) w w2 [ftI b b2 (.slice la q lc) hv L1 H a1 S sf]) := M.fto HM1.out 0 rfl t2
        have HM : Hid (M (ffoot b b2 lv hv) w _ (fit b b2 (.slice la q lc) hv L1 H a1 S sf ++ [blk w2.heap.size (.cells z32 32)])) := (unpackF (l := []) HM2.out).alloc (.cells z32 32) rfl
        have HF : Hid ((L1, a1) = R) := by show _ = _; rw [← HR1.out, fillF_none hx]
        simp only [Exit.noGoto]
        go_end0
        exact ⟨rfl, .slice la q lc, by rw [← HF.out]; exact FTo.of (HM.out.take 4)⟩
      · have HU : Hid (u.length = 32) := (HA.out wr (M.keep HM1.out)).size u (List.mem_of_getElem? hu)
        have HM2 : Hid (M (ffoot b b2 lv hv) w w2 [ftI b b2 (.slice la q lc) hv L1 H ((j + 1) % n : Nat) S sf]) := M.fto HM1.out 0 rfl t2
        have HM : Hid (M (ffoot b b2 lv hv) w _ (fit b b2 (.slice la q lc) hv L1 H ((j + 1) % n : Nat) S sf ++ [blk w2.heap.size (.cells (u.map bv).toArray 32)])) := (unpackF (l := []) HM2.out).alloc (.cells (u.map bv).toArray 32) rfl
        obtain ⟨k1, hk1⟩ : ∃ m, gk = m + 1 := ⟨gk - 1, by omega⟩
        have HK1 : Hid (gk = k1 + 1) := hk1
        have HN : Hid (fillF ms now n k1 (L1 ++ [newF u HU.out now]) ((j + 1) % n) = R) := by
          show _ = _
          rw [← HR1.out, hk1, fillF_some hx hu HU.out (by rw [Hq.out]; exact hlt)]
        have hmn : (j + 1) % n ≤ 1000 := by
          have hj := (List.getElem?_eq_some_iff.1 hu).1
          have : ms.length = n := (HA.out wr (M.keep HM1.out)).len
          exact Nat.le_trans (Nat.le_of_lt (Nat.mod_lt _ (by omega))) hn
        obtain ⟨a2, ha2⟩ : ∃ m, (j + 1) % n = m := ⟨_, rfl⟩
        rw [ha2] at HN hmn HM
        clear HM1 HM2 HX hx hu hk1 ha2 t2
        refine Txt.wp_region_text1 (fun _ => True) [0, 0, 0, 0, 1, 1, 0, 0, 3, 4, 0, 0, 4] (by kernel_rfl) (by kernel_rfl) trivial ?_
        have HM : Hid _ := HM.out.drew
        have c0 := HM.out.cell 0 rfl 0 (v := .slice la q lc) rfl
        (repeat (first | (refine Txt.tl_pure (v := ?_) (by rfl) ?_ ?_; rotate_left; (focus (intro _; go_simp; try with_reducible rfl)); simp only [Act.put, List.setIfInBounds_toArray, List.set_cons_zero, List.set_cons_succ]) | (refine Txt.tl_load (v := ?_) (by rfl) (by rfl) (by rfl) (by kernel_rfl) ?_ ?_; rotate_left; (focus assumption); simp only [Act.put, List.setIfInBounds_toArray, List.set_cons_zero, List.set_cons_succ]) | (refine Txt.tl_rowN (n := 32) (ty := 32) (by rfl) (by rfl) (by rfl) (HM.out.range 4 rfl) (by kernel_rfl) (by rw [List.length_map]; exact HU.out) ?_; simp only [Act.put, List.setIfInBounds_toArray, List.set_cons_zero, List.set_cons_succ])))
        refine Txt.tl_pure (v := .agg (fe (newF u HU.out now)).toArray) (by rfl) (ex_buildL rfl [(0, idv u), (1, .int .i64 (-1)), (2, .int .i64 now)] rfl (built_fe u HU.out now)) ?_
        simp only [Act.put, List.setIfInBounds_toArray, List.set_cons_zero, List.set_cons_succ]
        refine Txt.tl_alloc (by rfl) ?_
        refine St.wp_build slF (by decide) rfl (fe_len (newF u HU.out now)) rfl ?_
        have HM : Hid _ := HM.out.alloc (.cells (fe (newF u HU.out now)).toArray 39) rfl
        refine ⟨⟨Txt.Le.alloc _ _, trivial⟩, ?_⟩
        simp only [Act.put, List.setIfInBounds_toArray, List.set_cons_zero, List.set_cons_succ]
        refine Txt.tl_loud (by rfl) ?_
        refine St.wp_app1z F_enc slF (by decide) rfl rfl (HM.out.get 1 rfl) rfl (newF u HU.out now) rfl (HM.out.get 5 rfl) (by have := Hq.out; omega) ?_
        intro v3 w3 h3 k3 g3
        have HM : Hid _ := HM.out.appR 1 rfl h3 k3 g3
        obtain ⟨a3, c3, e3, _⟩ := h3.any
        subst e3
        obtain ⟨q3, hq3⟩ : ∃ m, (L1 ++ [newF u HU.out now]).length = m := ⟨_, rfl⟩
        have Hq3 : Hid ((L1 ++ [newF u HU.out now]).length = q3) := hq3
        rw [hq3] at HM ⊢
        clear h3 k3 g3 hq3 c0
        refine ⟨trivial, ?_⟩
        simp only [Act.put, List.setIfInBounds_toArray, List.set_cons_zero, List.set_cons_succ]
        (repeat (first | (refine Txt.tl_pure (v := ?_) (by rfl) ?_ ?_; rotate_left; (focus (intro _; go_simp; try with_reducible rfl)); simp only [Act.put, List.setIfInBounds_toArray, List.set_cons_zero, List.set_cons_succ]) | (refine Txt.tl_load (v := ?_) (by rfl) (by rfl) (by rfl) (by kernel_rfl) ?_ ?_; rotate_left; (focus assumption); simp only [Act.put, List.setIfInBounds_toArray, List.set_cons_zero, List.set_cons_succ]) | (refine Txt.tl_rowN (n := 32) (ty := 32) (by rfl) (by rfl) (by rfl) (HM.out.range 4 rfl) (by kernel_rfl) (by rw [List.length_map]; exact HU.out) ?_; simp only [Act.put, List.setIfInBounds_toArray, List.set_cons_zero, List.set_cons_succ])))
        refine Txt.tl_nil ?_
        refine Txt.tl_last (by rfl) (by rfl) ?_
        refine wp_storeF (ad := a3) (n := q3) (c := c3) rfl rfl rfl rfl (HM.out.cell 0 rfl 0 rfl) (HM.out.free 0 rfl 0) ?_
        have HM : Hid _ := HM.out.setc 0 rfl 0 (.slice a3 q3 c3)
        go_wp2
        go_roundg k1
        case rel => exact ⟨L1 ++ [newF u HU.out now], _, a2, _, rfl, HN.out, by have := H8.out; have := HK1.out; rw [List.length_append, List.length_singleton]; omega, by rw [List.length_append, List.length_singleton, Hq.out]; omega, hmn, HM.out.take 4⟩
        case measure => have := HK1.out; omega
    · have HF : Hid ((L1, a1) = R) := by show _ = _; rw [← HR1.out, fillF_full (by rw [Hq.out]; exact hlt)]
      clear HX HM1
      go_wp2
      simp only [Exit.noGoto]
      go_end0
      exact ⟨rfl, .slice la q lc, by rw [← HF.out]; exact FTo.of HM.out⟩
end Fe
end Go.Proofs.Ytgllkfolckbdhaa
