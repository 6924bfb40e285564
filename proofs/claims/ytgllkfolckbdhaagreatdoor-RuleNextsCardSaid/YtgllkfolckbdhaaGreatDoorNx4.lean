/-
  rule.names: heads with their ids, those that stand behind all others first.
-/
import Derived.Test.YtgllkfolckbdhaaGreatDoorNx3
import Derived.Test.YtgllkfolckbdhaaGreatDoorPx2
set_option linter.unusedVariables false
set_option linter.unusedSimpArgs false
namespace Go.Proofs.YtgllkfolckbdhaaGreatDoor
open Go.RowKit
namespace Nx
open Oct Ids Gn Hd Ru
open Mem (M It blk ids rows)
def mkn (x : Hh) : Nm := ⟨x, hiv x, hiv_len x⟩
def hkey (x : Hh) : Key := (x.G, hiv x)
/-- The first error. -/
def bad (K : List Hh) : Option Int := (K.find? fun x => hck x != 0).map hck
theorem bad_some {K : List Hh} {k : Nat} {x : Hh} (hx : K[k]? = some x) (h : hck x ≠ 0) (hb : ∀ (j : Nat) (y : Hh), j < k → K[j]? = some y → hck y = 0) : bad K = some (hck x) := by
  have hk := (List.getElem?_eq_some_iff.1 hx).1
  have e : K.find? (fun x => hck x != 0) = some x := by
    rw [List.find?_eq_some_iff_getElem]
    refine ⟨by simpa using h, k, hk, (List.getElem?_eq_some_iff.1 hx).2, fun j hj => ?_⟩
    rw [hb j _ hj (List.getElem?_eq_getElem (by omega))]
    decide
  unfold bad
  rw [e]
  rfl
theorem bad_none {K : List Hh} (hb : ∀ (j : Nat) (y : Hh), K[j]? = some y → hck y = 0) : bad K = none := by
  have e : K.find? (fun x => hck x != 0) = none := by
    rw [List.find?_eq_none]
    intro x hx
    obtain ⟨i, hi⟩ := List.getElem?_of_mem hx
    rw [hb i x hi]
    decide
  unfold bad
  rw [e]
  rfl
theorem cells_ag (l : List Value) : (Value.agg l.toArray).cells = l.toArray := rfl
theorem built_N (parts : List (Nat × Value)) : Tryz.prog.built 60 parts = Instr.fill (fun i => #[(0, 38), (38, 32)][i]?) nz parts := by kernel_rfl
theorem built_ne (x : Nm) : Tryz.prog.built 60 [(0, .agg (he x.h).toArray), (1, idv x.id)] = some (ne x).toArray := by
  have hz : nz = (hd (.slice none 0 0) 0 ByteArray.empty 0 0 0 Z32 ++ Z32.map bv).toArray := rfl
  have l1 := he_len x.h
  rw [built_N, hz, St.fill_cons (off := 0) (size := 38) (cs := he x.h) rfl (cells_ag _) l1 (by decide)]
  rw [List.take_zero, List.nil_append]
  have lz : ((hd (.slice none 0 0) 0 ByteArray.empty 0 0 0 Z32 ++ Z32.map bv).drop (0 + 38)).length = 32 := by decide
  generalize (hd (.slice none 0 0) 0 ByteArray.empty 0 0 0 Z32 ++ Z32.map bv).drop (0 + 38) = R at lz ⊢
  rw [St.fill_cons (off := 38) (size := 32) (cs := x.id.map bv) rfl (cells_ag _) (by rw [List.length_map, x.hid]) (by rw [List.length_append, l1, lz]; decide)]
  rw [List.take_left' l1, List.drop_eq_nil_of_le (by rw [List.length_append, l1, lz]; decide), List.append_nil, Instr.fill]
  rfl
section
variable {ops : Array Oper} {rest : List Oper} {o : Oper} {a : Act} {w : World} {Q : Exit → Act → World → Prop}
/-- A struct made of its parts, these reckoned. -/
theorem wl_buildP (hgd : o.guard = none) {T : TypeId} {parts : Array (Nat × Operand)} (ho : o.op = .build T parts) (ps : List (Nat × Value)) (hp : (parts.toList.map fun (i, x) => (i, a.eval x)) = ps) {cs : Array Value} (hb : Tryz.prog.built T ps = some cs) (h : wpList Tryz.prog ops Q rest (a.put o.dst (.agg cs)) w) : wpList Tryz.prog ops Q (o :: rest) a w :=
  St.wl_buildV hgd ho (by rw [Array.toList_map, hp]; exact hb) h
end
/-- What 'names' comes to. -/
def NamesPost (w : World) (K : List Hh) (e : Ending) (w' : World) : Prop :=
  (∃ v, bad K = some v ∧ e = .returned (.tuple #[.slice none 0 0, .int .i64 v]) ∧ Keep (fun _ => False) w w') ∨
  (bad K = none ∧ ∃ v N, e = .returned (.tuple #[v, .int .i64 0]) ∧ M (fun _ => False) w w' [rows 60 70 ne v N] ∧ N.map nk = srtD (K.map hkey) ∧ ∀ x ∈ N, x.h ∈ K)
theorem names_of {K : List Hh} {N : List Nm} (h : Sunk (K.map mkn) N K.length) : N.reverse.map nk = srtD (K.map hkey) ∧ ∀ x ∈ N.reverse, x.h ∈ K := by
  have e : (K.map mkn).map nk = K.map hkey := by rw [List.map_map]; rfl
  refine ⟨?_, fun x hx => ?_⟩
  · rw [← e]
    have : K.length = (K.map mkn).length := by rw [List.length_map]
    rw [this] at h
    exact h.all.symm
  · have h1 := h.perm.subset (List.mem_reverse.1 hx)
    obtain ⟨y, hy, rfl⟩ := List.mem_map.1 h1
    exact hy
theorem order_orders (S : Nat → Prop) (w : World) : Orders S w 55 #[] #[] := fun w1 x y _ => order_any w1 x y
set_option maxRecDepth 100000 in
set_option maxHeartbeats 4000000 in
theorem names_any (w : World) (hF : Sha.TabF w) (hKt : Sha.TabK w) (a : Option Addr) (n c : Nat) (K : List Hh) (hA : St.At 38 he w a n K) (hk : ∀ x ∈ K, Hok w x) (hn : n ≤ 20) :
    Calls Tryz.prog 27 #[.slice a n c] w (NamesPost w K) := by
  have HA : Hid (St.At 38 he w a n K) := hA
  have HI0 : Hid (∀ x ∈ K, ∀ w', Keep (fun _ => False) w w' → Calls Tryz.prog 39 #[.agg (he x).toArray] w' fun e w'' => e = .returned (.tuple #[idv (hiv x), .int .i64 (hck x)]) ∧ Keep (fun _ => False) w' w'') := fun x hx w' k =>
    hident w' (hF.keep k (fun h => h)) (hKt.keep k (fun h => h)) x ((hk x hx).calm k)
  have HM : Hid (M (fun _ => False) w w [rows 60 70 ne (.slice none 0 0) []]) := (M.start _ w).nilR 60 70 ne
  have HS0 : Hid (∀ w' g c (L : List Nm), NOwn w' (.slice (some ⟨g, 0, none⟩) n c) L → Calls Tryz.prog 54 #[.slice (some ⟨g, 0, none⟩) n c, .func (.func 55) #[] #[]] w' fun e w'' => e = .returned (.tuple #[]) ∧ ∃ M, NOwn w'' (.slice (some ⟨g, 0, none⟩) n c) M ∧ Keep (fun k => k = g) w' w'' ∧ Sunk L M n) := fun w' g c L h => sort_any w' g n c L h hn _ #[] #[] (fun _ _ => rfl) (order_orders _ _)
  clear hA hk hF hKt
  go_enter Tryz.func27, Tryz.ntmps27
  go_wp2
  go_loopw [4, 11] (fun s4 i wr => ∃ (k : Nat) (v : Value), k ≤ n ∧ i = .int .i64 k ∧ s4 = v ∧ (∀ (j : Nat) (y : Hh), j < k → K[j]? = some y → hck y = 0) ∧ M (fun _ => False) w wr [rows 60 70 ne v ((K.take k).map mkn)]) (fun _ i _ => n - (intOf i).toNat)
  case atStart => exact ⟨0, _, Nat.zero_le _, rfl, rfl, fun j y hj => absurd hj (Nat.not_lt_zero _), HM.out⟩
  case round =>
    clear HM
    obtain ⟨k, v, hkn, rfl, hv, hno, hM⟩ := hrel
    replace hv := hv.symm
    subst hv
    have HM : Hid _ := hM
    have HNo : Hid (∀ (j : Nat) (y : Hh), j < k → K[j]? = some y → hck y = 0) := hno
    clear hM hno
    by_cases hlt : k < n
    · obtain ⟨x, hx⟩ : ∃ x, K[k]? = some x := ⟨_, List.getElem?_eq_getElem (by rw [HA.out.len]; exact hlt)⟩
      obtain ⟨b1, o1, rfl, hb1, hr1⟩ : ∃ b off, a = some ⟨b, off, none⟩ ∧ b < w.heap.size ∧ ∀ i x, K[i]? = some x → w.rangeAt b (off + i * 38) (he x) := by rcases HA.out.lay with e | e; omega; exact e
      have R1 : Hid (wr.rangeAt b1 (o1 + k * 38) (he x)) := HM.out.keep.range hb1 (fun h => h) (hr1 k x hx)
      have Hx : Hid (K[k]? = some x) := hx
      have HI : Hid (∀ w', Keep (fun _ => False) w w' → Calls Tryz.prog 39 #[.agg (he x).toArray] w' fun e w'' => e = .returned (.tuple #[idv (hiv x), .int .i64 (hck x)]) ∧ Keep (fun _ => False) w' w'') := HI0.out x (List.mem_of_getElem? hx)
      have E1 : Hid ((K.take (k + 1)).map mkn = (K.take k).map mkn ++ [mkn x]) := by show _ = _; rw [take_snoc hx, List.map_append]; rfl
      have Hl : Hid (((K.take k).map mkn).length ≤ 1000000) := by show _ ≤ _; rw [List.length_map, List.length_take]; omega
      have HB : Hid (Tryz.prog.built 60 [(0, .agg (he x).toArray), (1, idv (hiv x))] = some (ne (mkn x)).toArray) := built_ne (mkn x)
      have Hul : Hid ((hiv x).length = 32) := hiv_len x
      generalize hiv x = u at HI Hul HB
      have Hum : Hid ((u.map bv).toArray.size = 32) := by show _ = _; rw [List.size_toArray, List.length_map]; exact Hul.out
      obtain ⟨t, ht⟩ : ∃ t, hck x = t := ⟨_, rfl⟩
      have Ht : Hid (hck x = t) := ht
      rw [ht] at HI
      clear hr1 hx hb1 ht
      by_cases h0 : t = 0
      · subst h0
        go_wp2_with (first | ((with_reducible refine at_load 28 ?_); first | (refine St.wl_load tyH (by rfl) rfl rfl R1.out (he_len x) ?_; simp only [Act.put, List.setIfInBounds_toArray, List.set_cons_zero, List.set_cons_succ]) | (refine St.wl_load tyH (by rfl) rfl rfl (HM.out.range 1 rfl) (he_len x) ?_; simp only [Act.put, List.setIfInBounds_toArray, List.set_cons_zero, List.set_cons_succ])) | (refine St.wl_alloc tyH rfl rfl (by (try simp only [World.size_alloc]); rfl) ?_; simp only [Act.put, List.setIfInBounds_toArray, List.set_cons_zero, List.set_cons_succ]) | (refine St.wl_storeN (W := wr) tyH rfl rfl rfl rfl rfl (by (try simp only [World.size_alloc])) (show _ = Value.agg (he x).toArray from rfl) (he_sz x) rfl (he_one x) ?_; have HM : Hid _ := HM.out.alloc (.cells (he x).toArray 28) rfl) | (go_at_call 39; refine (HI.out _ HM.out.keep).mono ?_; rintro e w2 ⟨rfl, k2⟩; have HM : Hid _ := HM.out.calm k2; clear k2) | (refine St.wl_alloc tyI rfl rfl (by (try simp only [World.size_alloc]); rfl) ?_; simp only [Act.put, List.setIfInBounds_toArray, List.set_cons_zero, List.set_cons_succ]) | (refine St.wl_storeN (W := w2) tyI rfl rfl rfl rfl rfl (by (try simp only [World.size_alloc])) (show _ = Value.agg (u.map bv).toArray from rfl) Hum.out rfl (one_bv _) ?_; have HM : Hid _ := HM.out.alloc (.cells (u.map bv).toArray 24) rfl) | ((with_reducible refine at_load 24 ?_); refine wl_loadG (by rfl) rfl rfl Hul.out (HM.out.range 2 rfl) ?_; simp only [Act.put, List.setIfInBounds_toArray, List.set_cons_zero, List.set_cons_succ]) | (refine wl_buildP (T := 60) rfl rfl [(0, .agg (he x).toArray), (1, idv u)] rfl HB.out ?_; simp only [Act.put, List.setIfInBounds_toArray, List.set_cons_zero, List.set_cons_succ]) | (refine St.wl_build slN (by decide) rfl rfl (encNe.len (mkn x)) rfl ?_; have HM : Hid _ := HM.out.alloc (.cells (ne (mkn x)).toArray 60) (by first | rfl | simp only [World.size_alloc]); simp only [Act.put, List.setIfInBounds_toArray, List.set_cons_zero, List.set_cons_succ]) | (refine St.wl_app1 slN (by decide) rfl rfl rfl (HM.out.get 0 rfl) rfl (encNe.len (mkn x)) (encNe.all (mkn x)) (heap_alloc_new _ _) Hl.out ?_; intro v3 w3 h1 k1 h3; have HM : Hid _ := HM.out.appR 0 rfl h1 k1 h3; clear h1 k1 h3; simp only [Act.put, List.setIfInBounds_toArray, List.set_cons_zero, List.set_cons_succ]))
        go_roundw
        case rel =>
          refine ⟨k + 1, _, by omega, rfl, rfl, fun j y hj hy => ?_, by rw [E1.out]; exact HM.out.take 1⟩
          rcases Nat.lt_or_ge j k with h | h
          · exact HNo.out j y h hy
          · obtain rfl : j = k := by omega
            rw [Hx.out] at hy
            cases hy
            exact Ht.out
        case measure => simp [intOf]; omega
      · have h1 : (t != 0) = true := by simpa using h0
        have HBd : Hid (bad K = some t) := by show _ = _; rw [← Ht.out]; exact bad_some Hx.out (by rw [Ht.out]; exact h0) HNo.out
        clear h0
        go_wp2_with (first | ((with_reducible refine at_load 28 ?_); first | (refine St.wl_load tyH (by rfl) rfl rfl R1.out (he_len x) ?_; simp only [Act.put, List.setIfInBounds_toArray, List.set_cons_zero, List.set_cons_succ]) | (refine St.wl_load tyH (by rfl) rfl rfl (HM.out.range 1 rfl) (he_len x) ?_; simp only [Act.put, List.setIfInBounds_toArray, List.set_cons_zero, List.set_cons_succ])) | (refine St.wl_alloc tyH rfl rfl (by (try simp only [World.size_alloc]); rfl) ?_; simp only [Act.put, List.setIfInBounds_toArray, List.set_cons_zero, List.set_cons_succ]) | (refine St.wl_storeN (W := wr) tyH rfl rfl rfl rfl rfl (by (try simp only [World.size_alloc])) (show _ = Value.agg (he x).toArray from rfl) (he_sz x) rfl (he_one x) ?_; have HM : Hid _ := HM.out.alloc (.cells (he x).toArray 28) rfl) | (go_at_call 39; refine (HI.out _ HM.out.keep).mono ?_; rintro e w2 ⟨rfl, k2⟩; have HM : Hid _ := HM.out.calm k2; clear k2) | (refine St.wl_alloc tyI rfl rfl (by (try simp only [World.size_alloc]); rfl) ?_; simp only [Act.put, List.setIfInBounds_toArray, List.set_cons_zero, List.set_cons_succ]) | (refine St.wl_storeN (W := w2) tyI rfl rfl rfl rfl rfl (by (try simp only [World.size_alloc])) (show _ = Value.agg (u.map bv).toArray from rfl) Hum.out rfl (one_bv _) ?_; have HM : Hid _ := HM.out.alloc (.cells (u.map bv).toArray 24) rfl))
        go_ret2
        exact .inl ⟨t, HBd.out, rfl, HM.out.keep⟩
    · obtain rfl : k = n := by omega
      have e : K.take k = K := List.take_of_length_le (by rw [HA.out.len]; exact Nat.le_refl _)
      rw [e] at HM
      have HBd : Hid (bad K = none) := bad_none (fun j y hj => HNo.out j y (by rw [← HA.out.len]; exact (List.getElem?_eq_some_iff.1 hj).1) hj)
      have HL : Hid (K.length = k) := HA.out.len
      clear HI0 HNo e
      by_cases hk0 : k = 0
      · subst hk0
        obtain ⟨a5, c5, e5, _⟩ := (show NOwn wr _ (K.map mkn) from HM.out.get 0 rfl).any
        rw [List.length_map, HL.out] at e5
        subst e5
        go_wp2_with (first | (go_at_call 54; refine (sort_none _ a5 c5 _).mono ?_; rintro e w5 ⟨rfl, k5⟩; have HM : Hid _ := HM.out.calm k5; clear k5) | (go_at_call 56; refine (rev_none _ a5 c5).mono ?_; rintro e w6 ⟨rfl, k6⟩; have HM : Hid _ := HM.out.calm k6; clear k6))
        go_ret2
        have e : K = [] := List.eq_nil_of_length_eq_zero HL.out
        refine .inr ⟨HBd.out, _, [], rfl, by have := HM.out; rw [e] at this; exact this, ?_, fun x hx => by cases hx⟩
        rw [e]
        simp [srtD]
      · obtain ⟨g, c5, e5, _⟩ := Px.own_some (show NOwn wr _ (K.map mkn) from HM.out.get 0 rfl) (by rw [List.length_map, HL.out]; omega)
        rw [List.length_map, HL.out] at e5
        subst e5
        go_wp2_with (first | (go_at_call 54; refine (HS0.out _ g c5 _ (HM.out.get 0 rfl)).mono ?_; rintro e w5 ⟨rfl, N, o5, k5, s5⟩; have HSu : Hid _ := s5; have HM : Hid _ := HM.out.appR 0 rfl o5 (k5.mono (fun _ _ h => by rw [h]; rfl)) (.inl rfl); clear o5 k5 s5) | (go_at_call 56; refine (rev_any _ g _ c5 N (HM.out.get 0 rfl) (by omega)).mono ?_; rintro e w6 ⟨rfl, o6, k6⟩; have HM : Hid _ := HM.out.appR 0 rfl o6 (k6.mono (fun _ _ h => by rw [h]; rfl)) (.inl rfl); clear o6 k6))
        go_ret2
        have := names_of (K := K) (N := N) (by rw [HL.out]; exact HSu.out)
        exact .inr ⟨HBd.out, _, N.reverse, rfl, HM.out.take 1, this.1, this.2⟩
end Nx
end Go.Proofs.YtgllkfolckbdhaaGreatDoor
