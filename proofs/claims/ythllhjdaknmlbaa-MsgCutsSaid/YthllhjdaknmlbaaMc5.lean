/-
  petrelref09.Cut: walked.
-/
import Derived.Test.YthllhjdaknmlbaaMc3
import Derived.Test.YthllhjdaknmlbaaMc4
set_option linter.unusedVariables false
set_option linter.unusedSimpArgs false
namespace Go.Proofs.Ythllhjdaknmlbaa
open Go.RowKit
namespace Mem
theorem M.ids0 {F : Nat → Prop} {w0 w : World} {l : List It} (h : M F w0 w l) : M F w0 (w.alloc (.cells #[] 41)) (l ++ [ids (.slice (some ⟨w.heap.size, 0, none⟩) 0 0) []]) :=
  h.add (x := ids (.slice (some ⟨w.heap.size, 0, none⟩) 0 0) []) ((Keep.refl _ _).alloc _) (Ids.Own.of rfl (by simp) (heap_alloc_new w _) (Nat.le_refl _) (by unfold maxLen; omega) rfl rfl) (fun k hk => by have e : w.heap.size = k := Option.some.inj hk; subst e; simp)
theorem M.lastOf {F : Nat → Prop} {w0 w : World} {l : List It} {x : It} (h : M F w0 w (l ++ [x])) : x.holds w := h.get l.length (by simp)
theorem M.appLast {F : Nat → Prop} {w0 w w' : World} {l : List It} {v v' : Value} {els els' : List (List UInt8)} (h : M F w0 w (l ++ [ids v els])) (h1 : Ids.Own w' v' els') (k : Keep (fun k => v.ownBlock = some k) w w') (h3 : v'.ownBlock = v.ownBlock ∨ v'.ownBlock = some w.heap.size) : M F w0 w' (l ++ [ids v' els']) := by
  have := h.appI (v := v) (els := els) l.length (by simp) h1 k h3
  simpa using this
end Mem
namespace Mc
open Oct Ids
open Ms hiding M
open Mem (M It blk ids rows)
theorem own_some {α : Type} {T : TypeId} {n : Nat} {enc : α → List Value} {w : World} {v : Value} {L : List α} (h : St.Own T n enc w v L) (h0 : 0 < L.length) : ∃ g c, v = .slice (some ⟨g, 0, none⟩) L.length c ∧ L.length ≤ c := by
  obtain ⟨_, hn | ⟨g, cap, cur, rfl, _, _, hlc, hcm, _⟩⟩ := h.own
  · have := hn.2; omega
  · exact ⟨g, cap, rfl, hlc⟩
theorem at_load {P : Program} {ops : Array Oper} {Q : Exit → Act → World → Prop} {d : Option Tmp} {ty : TypeId} {p : String} {x : Operand} {af} {g} {rest : List Oper} {a : Act} {w : World} (T : TypeId) (h : wpList P ops Q ({ dst := d, op := .load T x, type := ty, pos := p, after := af, guard := g } :: rest) a w) : wpList P ops Q ({ dst := d, op := .load T x, type := ty, pos := p, after := af, guard := g } :: rest) a w := h
/-- The rows, then each message's ids. -/
def it2 (K : Int) (v : Value) (L : List G) : List It := rows 28 3 (encG K) v L :: L.map idG
theorem it2_at {K : Int} {v : Value} {L : List G} {X : List It} {m : Nat} {y : G} (h : L[m]? = some y) : (it2 K v L ++ X)[m + 1]? = some (idG y) := by
  have hm := (List.getElem?_eq_some_iff.1 h).1
  unfold it2
  rw [List.cons_append, List.getElem?_cons_succ, List.getElem?_append_left (by rw [List.length_map]; exact hm), List.getElem?_map, h]
  rfl
theorem it2_set {K : Int} {v : Value} {L : List G} {w0 w : World} {m : Nat} {x y : G} (h : L[m]? = some x) (hM : M (fun _ => False) w0 w (rows 28 3 (encG K) v (L.set m y) :: L.map idG ++ [idG y])) : M (fun _ => False) w0 w (it2 K v (L.set m y)) := by
  have hm := (List.getElem?_eq_some_iff.1 h).1
  have := hM.moveLast (m + 1) (by simp; omega)
  unfold it2
  rw [List.map_set]
  exact this
set_option maxRecDepth 100000 in
set_option maxHeartbeats 4000000 in
theorem xcut_no (w : World) (K : Int) (a : Option Addr) (n c : Nat) (l : List (List UInt8)) (hK : knd K ≠ 1) :
    Calls Try.prog 6 #[.int .i64 K, .slice a n c] w (CutPost K l w) := by
  have hk : (knd K == 1) = false := by rw [beq_eq_false_iff_ne]; exact hK
  have HK : Hid _ := hK
  clear hK
  go_enter Try.func6, Try.ntmps6
  go_wp2_with (first | (go_at_call 14; refine (kind_any _ K).mono ?_; rintro e w1 ⟨rfl, hw⟩; rw [hw]; clear hw))
  go_ret
  refine ⟨.slice none 0 0, [], rfl, ?_, by unfold cutL; rw [if_neg HK.out]; rfl⟩
  exact (Mem.M.start (fun _ => False) w).nilR _ _ _
set_option maxRecDepth 100000 in
set_option maxHeartbeats 4000000 in
theorem xcut_yes (w : World) (K : Int) (a : Option Addr) (n c : Nat) (l : List (List UInt8)) (hK : knd K = 1) (h : At w a n l) (hn : n ≤ 100) :
    Calls Try.prog 6 #[.int .i64 K, .slice a n c] w (CutPost K l w) := by
  have HA : Hid _ := h
  have HK : Hid _ := hK
  clear h
  go_enter Try.func6, Try.ntmps6
  go_wp2_with (first | (go_at_call 14; refine (kind_any _ K).mono ?_; rw [HK.out]; rintro e w1 ⟨rfl, hw⟩; rw [hw]; clear hw))
  go_loopw [5, 6] (fun s5 s6 wr => ∃ (i : Nat) (v : Value) (L : List G), i ≤ n ∧ s5 = v ∧ s6 = .int .i64 i ∧ M (fun _ => False) w wr (it2 K v L) ∧ L.map (·.u) = chunks (l.take i)) (fun _ s6 _ => n - (intOf s6).toNat)
  case atStart => exact ⟨0, _, [], Nat.zero_le _, rfl, rfl, (Mem.M.start (fun _ => False) w).nilR _ _ _, by rw [List.take_zero]; rfl⟩
  case round =>
    obtain ⟨i, v, L, hi, rfl, rfl, hM, hL⟩ := hrel
    have HM : Hid _ := hM
    have HL : Hid _ := hL
    clear hM hL
    by_cases hlt : i < n
    · obtain ⟨x, hx⟩ : ∃ x, l[i]? = some x := ⟨_, List.getElem?_eq_getElem (by rw [HA.out.len]; omega)⟩
      have Hx : Hid _ := hx
      have hxl : x.length = 32 := HA.out.size x (List.mem_of_getElem? hx)
      obtain ⟨b1, o1, rfl, hb1, hr1⟩ : ∃ b off, a = some ⟨b, off, none⟩ ∧ b < w.heap.size ∧ ∀ i x, l[i]? = some x → w.rangeAt b (off + i * 32) (x.map bv) := by rcases HA.out.lay with e | e; omega; exact e
      have R1 : Hid _ := hr1 i x hx
      have hpl : L.length = (i + 15) / 16 := by
        have := congrArg List.length HL.out
        rw [List.length_map] at this
        rw [this]
        unfold chunks
        rw [List.length_map, List.length_range, List.length_take, HA.out.len, Nat.min_eq_left hi]
      obtain ⟨m, hm⟩ : ∃ m, i / 16 = m := ⟨_, rfl⟩
      clear hx hr1
      by_cases h0 : i % 16 = 0
      · have h0' : ((i : Int) % 16) = 0 := by omega
        have HL1 : Hid ((L ++ [(⟨none, 0, 0, []⟩ : G)]).map G.u = ahead l i) := by
          rw [ahead_new (by rw [HA.out.len]; exact hi) h0, List.map_append, HL.out]
          rfl
        obtain ⟨L1, hL1⟩ : ∃ L1 : List G, L ++ [⟨none, 0, 0, []⟩] = L1 := ⟨_, rfl⟩
        have HE : Hid _ := hL1
        rw [hL1] at HL1
        clear hL1
        have HQ : Hid (L1.length = m + 1) := (by
          have := congrArg List.length HL1.out
          rw [List.length_map, ahead_len, hm] at this
          exact this)
        obtain ⟨y, hy⟩ : ∃ y, L1[m]? = some y := ⟨_, List.getElem?_eq_getElem (by rw [HQ.out]; omega)⟩
        have HU : Hid (y.u = (l.drop (16 * (i / 16))).take (i % 16)) := (by
          have h1 := ahead_at l i
          rw [← HL1.out, hm, List.getElem?_map, hy, ← hm] at h1
          exact Option.some.inj h1)
        have Hy : Hid _ := hy
        clear hy
        go_wp2_with (first | (refine St.wl_build slG (by decide) rfl rfl (cs := encG K ⟨none, 0, 0, []⟩) rfl rfl ?_; have HM : Hid _ := HM.out.calm ((Keep.refl _ _).alloc (.cells (encG K ⟨none, 0, 0, []⟩).toArray 28)); simp only [Act.put, List.setIfInBounds_toArray, List.set_cons_zero, List.set_cons_succ]) | (refine St.wl_app1 slG (by decide) rfl rfl rfl (HM.out.get 0 rfl) rfl (y := ⟨none, 0, 0, []⟩) rfl ((G_enc K).all _) (heap_alloc_new _ _) (by omega) ?_; intro v6 w6 h6 k6 g6; have HM : Hid _ := HM.out.appR 0 rfl h6 k6 g6; clear h6 k6 g6; simp only [Act.put, List.setIfInBounds_toArray, List.set_cons_zero, List.set_cons_succ]; rw [HE.out] at HM; have HM : Hid (M (fun _ => False) w w6 (it2 K v6 L1)) := (by have h := HM.out.nilI; rw [← HE.out] at h ⊢; unfold it2 at h ⊢; rw [List.map_append]; exact h); obtain ⟨g, cc, rfl, hcc⟩ := own_some (HM.out.get 0 rfl) (by rw [HQ.out]; omega); rw [HQ.out] at HM hcc; rw [HQ.out]; obtain ⟨cf, ff⟩ := St.Own.cellAt (G_enc K) (j := 1) (HM.out.get 0 rfl) Hy.out rfl) | (refine wl_build0 rfl rfl ?_; intro h0; clear h0; have HM : Hid _ := HM.out.ids0; obtain ⟨cf, ff⟩ := St.Own.cellAt (G_enc K) (j := 1) (HM.out.get 0 rfl) Hy.out rfl; simp only [Act.put, List.setIfInBounds_toArray, List.set_cons_zero, List.set_cons_succ]) | (refine Ids.wl_app1 rfl rfl rfl HM.out.lastOf rfl hxl (heap_alloc_new _ _) (by have h2 := congrArg List.length HU.out; rw [List.length_take] at h2; simp; omega) ?_; intro v8 w8 h8 k8 g8; obtain ⟨a8, c8, e8, _⟩ := h8.at; have HM : Hid _ := HM.out.appLast h8 k8 g8; obtain ⟨q8, hq8⟩ : ∃ q, ([] ++ y.u ++ [x]).length = q := ⟨_, rfl⟩; rw [hq8] at e8; subst e8; clear h8 k8 g8; obtain ⟨cf, ff⟩ := St.Own.cellAt (G_enc K) (j := 1) (HM.out.get 0 rfl) Hy.out rfl; simp only [Act.put, List.setIfInBounds_toArray, List.set_cons_zero, List.set_cons_succ]) | (refine wl_appR rfl rfl rfl HM.out.lastOf rfl (idG_at HM.out (it2_at Hy.out)) (by have h1 := (idG_at HM.out (it2_at Hy.out)).len; have h2 := congrArg List.length HU.out; rw [List.length_take] at h2; simp; omega) ?_; intro v7 w7 h7 k7 g7; have HM : Hid _ := HM.out.appLast h7 k7 g7; clear h7 k7 g7; obtain ⟨cf, ff⟩ := St.Own.cellAt (G_enc K) (j := 1) (HM.out.get 0 rfl) Hy.out rfl; simp only [Act.put, List.setIfInBounds_toArray, List.set_cons_zero, List.set_cons_succ]) | ((with_reducible refine at_load 41 ?_); refine Ids.wl_load rfl rfl rfl hxl (HM.out.keep.range hb1 (fun h => h) R1.out) ?_; simp only [Act.put, List.setIfInBounds_toArray, List.set_cons_zero, List.set_cons_succ]) | (refine Ids.wl_build rfl rfl hxl rfl ?_; have HM : Hid _ := HM.out.calm ((Keep.refl _ _).alloc (.cells (x.map bv).toArray 41)); obtain ⟨cf, ff⟩ := St.Own.cellAt (G_enc K) (j := 1) (HM.out.get 0 rfl) Hy.out rfl; simp only [Act.put, List.setIfInBounds_toArray, List.set_cons_zero, List.set_cons_succ]))
        have HF : Hid _ := HM.out.upd 0 rfl (S := fun k => k = g) (Keep.setCell (Keep.refl _ _) ⟨g, m * 3 + 1, none⟩ (.slice a8 q8 c8) (fun _ => rfl)) (fun k h => (by rw [h]; rfl)) (y := rows 28 3 (encG K) (.slice (some ⟨g, 0, none⟩) (m + 1) cc) (L1.set m ⟨a8, q8, c8, [] ++ y.u ++ [x]⟩)) (St.Own.setAt (G_enc K) (HM.out.get 0 rfl) Hy.out (by decide) rfl) (fun k hk => .inl hk)
        go_roundw
        case rel =>
          refine ⟨i + 1, _, L1.set m ⟨a8, q8, c8, [] ++ y.u ++ [x]⟩, by omega, rfl, rfl, it2_set Hy.out HF.out, ?_⟩
          rw [List.map_set, HL1.out, ← ahead_set Hx.out, hm, HU.out, hm]
          rfl
        case measure => simp [intOf]; omega
      · have h0' : ¬ ((i : Int) % 16) = 0 := by omega
        have HL1 : Hid (L.map G.u = ahead l i) := by
          rw [ahead_old (by rw [HA.out.len]; exact hi) h0]
          exact HL.out
        obtain ⟨L1, hL1⟩ : ∃ L1 : List G, L = L1 := ⟨_, rfl⟩
        rw [hL1] at HM HL1
        have HQ : Hid (L1.length = m + 1) := (by
          have := congrArg List.length HL1.out
          rw [List.length_map, ahead_len, hm] at this
          exact this)
        obtain ⟨y, hy⟩ : ∃ y, L1[m]? = some y := ⟨_, List.getElem?_eq_getElem (by rw [HQ.out]; omega)⟩
        have HU : Hid (y.u = (l.drop (16 * (i / 16))).take (i % 16)) := (by
          have h1 := ahead_at l i
          rw [← HL1.out, hm, List.getElem?_map, hy, ← hm] at h1
          exact Option.some.inj h1)
        have Hy : Hid _ := hy
        clear hy
        obtain ⟨g, cc, rfl, hcc⟩ := own_some (HM.out.get 0 rfl) (by rw [HQ.out]; omega)
        rw [HQ.out] at HM hcc
        rw [HQ.out]
        obtain ⟨cf, ff⟩ := St.Own.cellAt (G_enc K) (j := 1) (HM.out.get 0 rfl) Hy.out rfl
        go_wp2_with (first | (refine wl_build0 rfl rfl ?_; intro h0; clear h0; have HM : Hid _ := HM.out.ids0; obtain ⟨cf, ff⟩ := St.Own.cellAt (G_enc K) (j := 1) (HM.out.get 0 rfl) Hy.out rfl; simp only [Act.put, List.setIfInBounds_toArray, List.set_cons_zero, List.set_cons_succ]) | (refine Ids.wl_app1 rfl rfl rfl HM.out.lastOf rfl hxl (heap_alloc_new _ _) (by have h2 := congrArg List.length HU.out; rw [List.length_take] at h2; simp; omega) ?_; intro v8 w8 h8 k8 g8; obtain ⟨a8, c8, e8, _⟩ := h8.at; have HM : Hid _ := HM.out.appLast h8 k8 g8; obtain ⟨q8, hq8⟩ : ∃ q, ([] ++ y.u ++ [x]).length = q := ⟨_, rfl⟩; rw [hq8] at e8; subst e8; clear h8 k8 g8; obtain ⟨cf, ff⟩ := St.Own.cellAt (G_enc K) (j := 1) (HM.out.get 0 rfl) Hy.out rfl; simp only [Act.put, List.setIfInBounds_toArray, List.set_cons_zero, List.set_cons_succ]) | (refine wl_appR rfl rfl rfl HM.out.lastOf rfl (idG_at HM.out (it2_at Hy.out)) (by have h1 := (idG_at HM.out (it2_at Hy.out)).len; have h2 := congrArg List.length HU.out; rw [List.length_take] at h2; simp; omega) ?_; intro v7 w7 h7 k7 g7; have HM : Hid _ := HM.out.appLast h7 k7 g7; clear h7 k7 g7; obtain ⟨cf, ff⟩ := St.Own.cellAt (G_enc K) (j := 1) (HM.out.get 0 rfl) Hy.out rfl; simp only [Act.put, List.setIfInBounds_toArray, List.set_cons_zero, List.set_cons_succ]) | ((with_reducible refine at_load 41 ?_); refine Ids.wl_load rfl rfl rfl hxl (HM.out.keep.range hb1 (fun h => h) R1.out) ?_; simp only [Act.put, List.setIfInBounds_toArray, List.set_cons_zero, List.set_cons_succ]) | (refine Ids.wl_build rfl rfl hxl rfl ?_; have HM : Hid _ := HM.out.calm ((Keep.refl _ _).alloc (.cells (x.map bv).toArray 41)); obtain ⟨cf, ff⟩ := St.Own.cellAt (G_enc K) (j := 1) (HM.out.get 0 rfl) Hy.out rfl; simp only [Act.put, List.setIfInBounds_toArray, List.set_cons_zero, List.set_cons_succ]))
        have HF : Hid _ := HM.out.upd 0 rfl (S := fun k => k = g) (Keep.setCell (Keep.refl _ _) ⟨g, m * 3 + 1, none⟩ (.slice a8 q8 c8) (fun _ => rfl)) (fun k h => (by rw [h]; rfl)) (y := rows 28 3 (encG K) (.slice (some ⟨g, 0, none⟩) (m + 1) cc) (L1.set m ⟨a8, q8, c8, [] ++ y.u ++ [x]⟩)) (St.Own.setAt (G_enc K) (HM.out.get 0 rfl) Hy.out (by decide) rfl) (fun k hk => .inl hk)
        go_roundw
        case rel =>
          refine ⟨i + 1, _, L1.set m ⟨a8, q8, c8, [] ++ y.u ++ [x]⟩, by omega, rfl, rfl, it2_set Hy.out HF.out, ?_⟩
          rw [List.map_set, HL1.out, ← ahead_set Hx.out, hm, HU.out, hm]
          rfl
        case measure => simp [intOf]; omega
    · obtain rfl : i = n := by omega
      have e : l.take i = l := List.take_of_length_le (by rw [HA.out.len]; exact Nat.le_refl _)
      rw [e] at HL
      go_wp2
      go_ret
      refine ⟨_, L, rfl, HM.out, ?_⟩
      unfold cutL
      rw [if_pos HK.out]
      exact HL.out
theorem xcut_any (w : World) (K : Int) (a : Option Addr) (n c : Nat) (l : List (List UInt8)) (h : At w a n l) (hn : n ≤ 100) :
    Calls Try.prog 6 #[.int .i64 K, .slice a n c] w (CutPost K l w) := by
  by_cases hK : knd K = 1
  · exact xcut_yes w K a n c l hK h hn
  · exact xcut_no w K a n c l hK
end Mc
end Go.Proofs.Ythllhjdaknmlbaa
