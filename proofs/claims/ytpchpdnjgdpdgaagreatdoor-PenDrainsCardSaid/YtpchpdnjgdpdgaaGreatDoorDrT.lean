/-
  What the laid tables of sha hold; headers that came in, as records; Twins.
-/
import Derived.Test.YtpchpdnjgdpdgaaGreatDoorGMm
import Derived.Test.YtpchpdnjgdpdgaaGreatDoorRows
import Derived.MakeChecks
import Derived.LaidMore
import Derived.OpenShut
import Derived.Lay
import Derived.ProofKit
import Derived.Test.YtpchpdnjgdpdgaaGreatDoorGOp
import Derived.Test.YtpchpdnjgdpdgaaGreatDoorGSh
import Derived.Test.YtpchpdnjgdpdgaaGreatDoorRu1
import Derived.Test.YtpchpdnjgdpdgaaGreatDoorHd9
set_option linter.unusedVariables false
set_option linter.unusedSimpArgs false
namespace Go.Proofs.YtpchpdnjgdpdgaaGreatDoor
open Go.RowKit
namespace Lad
open Go.ChangeShapes Go.WideShapes Go.ChangeAt
/-- An array of whole numbers, as it is read: its cells. -/
theorem arr_cells {H : Type} {enc : TypeId × Value → H} {P : Program} {w : World} {base : Nat} {spare : TypeId → Bool} {held : Bool} {fuel : Nat} {t e : TypeId} {n : Nat} {k : IntKind} {cs : List Value} {vals : List Int} {q : List MemPlace} (ht : P.underlying t = some (.array n e)) (he : P.underlying e = some (.int k)) (hc : P.cellsOf e = 1)
    (h : DataW.trod enc P w base spare held fuel t cs = some (.agg (vals.map fun x => .lit (.int k x)), q)) (hn : vals.length = n) : ∀ (i : Nat) (x : Int), vals[i]? = some x → cs[i]? = some (Value.int k x) := by
  obtain ⟨xs, m, rfl, hx, hlen, hxn, hel⟩ := DataW.trod_array ht h
  intro i x hi
  have hin : i < n := by rw [← hn]; exact (List.getElem?_eq_some_iff.1 hi).1
  simp only [Prod.mk.injEq, DataW.agg.injEq] at hx
  obtain ⟨hx1, _⟩ := hx
  have h1 := hel i hin
  obtain ⟨y, hy⟩ : ∃ y, xs[i]? = some y := ⟨_, List.getElem?_eq_getElem (by rw [hxn]; exact hin)⟩
  rw [hy] at h1
  obtain ⟨z, e1, e2, _⟩ := DataW.trod_int he h1
  have h2 : (vals.map fun x => (DataW.lit (.int k x) : DataW H))[i]? = (xs.map (·.1))[i]? := by rw [hx1]
  rw [List.getElem?_map, List.getElem?_map, hi, hy, e2] at h2
  simp at h2
  subst h2
  rw [hc, Nat.mul_one] at e1
  have h3 : ((cs.drop i).take 1)[0]? = some (.int k x) := by rw [e1]; rfl
  rw [List.getElem?_take_of_lt (by omega), List.getElem?_drop] at h3
  simpa using h3
theorem tab_of {P : Program} {W : World} {name : String} {g : Nat} {cs : Array Value} (hg : P.globalNamed name = some g) (hv : W.var? P name = some cs) {L : List Value} (h : ∀ (i : Nat) (x : Value), L[i]? = some x → cs.toList[i]? = some x) (hne : L ≠ []) : g < W.heap.size ∧ W.rangeAt g 0 L := by
  have hr : W.rangeAt g 0 L := fun i x hi => by
    rw [Nat.zero_add, World.var?_cell hg hv i, ← Array.getElem?_toList]
    exact h i x hi
  refine ⟨?_, hr⟩
  obtain ⟨x, hx⟩ : ∃ x, L[0]? = some x := by
    cases L with
    | nil => exact absurd rfl hne
    | cons y _ => exact ⟨y, rfl⟩
  have h0 := hr 0 x hx
  unfold World.cell? at h0
  cases hb : W.heap[g]? with
  | none => rw [show (⟨g, 0 + 0, none⟩ : Addr).block = g from rfl, hb] at h0; simp at h0
  | some o => exact lt_of_block hb
end Lad
namespace Lad
open Go.ChangeShapes Go.WideShapes Go.ChangeAt
theorem gFirst : Tryz.prog.globalNamed "petrel/sha.first" = some 0 := by kernel_rfl
theorem gK : Tryz.prog.globalNamed "petrel/sha.k" = some 1 := by kernel_rfl
def FV : List Int := Sha.H0.map fun x => (x.toNat : Int)
def KV : List Int := Sha.K.map fun x => (x.toNat : Int)
theorem sha_of {W : World} (h : laidMetH Tryz.prog [("petrel/sha.first", Rows.laid_petrel_sha_first), ("petrel/sha.k", Rows.laid_petrel_sha_k)] W) : Sha.TabF W ∧ Sha.TabK W := by
  rw [MakeChecks.laidMetH_plain _ _ _ (by kernel_rfl)] at h
  obtain ⟨ps, ⟨g0, t0, cs0, f0, p0, q0, hg0, ht0, hv0, hd0, ⟨g1, t1, cs1, f1, p1, q1, hg1, ht1, hv1, hd1, _, _⟩, _⟩, _, _⟩ := h
  obtain rfl := Option.some.inj (gFirst.symm.trans hg0)
  obtain rfl := Option.some.inj (gK.symm.trans hg1)
  have tF : (Tryz.prog.globals[0]?).map (·.type) = some 115 := by kernel_rfl
  obtain rfl := Option.some.inj (tF.symm.trans ht0)
  have tK : (Tryz.prog.globals[1]?).map (·.type) = some 151 := by kernel_rfl
  obtain rfl := Option.some.inj (tK.symm.trans ht1)
  have hf := arr_cells (vals := FV) (k := .u32) Tryz.underlying115 Tryz.underlying114 (by kernel_rfl) hd0 rfl
  have hk := arr_cells (vals := KV) (k := .u32) Tryz.underlying151 Tryz.underlying114 (by kernel_rfl) hd1 rfl
  have hF := tab_of gFirst hv0 (L := Sha.H0.map Sha.uv) (fun i x hi => by
    rw [List.getElem?_map] at hi
    cases hx : Sha.H0[i]? with
    | none => rw [hx] at hi; cases hi
    | some y =>
      rw [hx] at hi
      cases hi
      exact hf i _ (by unfold FV; rw [List.getElem?_map, hx]; rfl)) (by decide)
  have hK := tab_of gK hv1 (L := Sha.K.map Sha.uv) (fun i x hi => by
    rw [List.getElem?_map] at hi
    cases hx : Sha.K[i]? with
    | none => rw [hx] at hi; cases hi
    | some y =>
      rw [hx] at hi
      cases hi
      exact hk i _ (by unfold KV; rw [List.getElem?_map, hx]; rfl)) (by decide)
  refine ⟨hF, hK.1, fun i hi => ?_⟩
  have h := hK.2 i (Sha.uv (Sha.K.getD i 0)) (by
    have e : i < Sha.K.length := hi
    rw [List.getElem?_map, List.getD_eq_getElem?_getD, List.getElem?_eq_getElem e]; rfl)
  rwa [Nat.zero_add] at h
end Lad
namespace Nx
open Oct Ids Gn Hd Ru
open Mem (M It blk ids rows)
/-- Guards of arms: which operation stands next. -/
theorem at_alloc {P : Program} {ops : Array Oper} {Q : Exit → Act → World → Prop} {d : Option Tmp} {ty : TypeId} {p : String} {af} {g} {rest : List Oper} {a : Act} {w : World} (T : TypeId) (h : wpList P ops Q ({ dst := d, op := .alloc T, type := ty, pos := p, after := af, guard := g } :: rest) a w) : wpList P ops Q ({ dst := d, op := .alloc T, type := ty, pos := p, after := af, guard := g } :: rest) a w := h
def Hin (w : World) (x : Hh) : Prop := At w x.a x.n x.l ∧ x.T.size ≤ maxLen
/-- A header that came in, as a record. -/
def toH (x : HH) : Hh := ⟨x.1.a, x.1.len, x.1.cap, x.1.els, x.2.1, x.2.2.1, x.2.2.2.1, x.2.2.2.2.1, x.2.2.2.2.2.1, if x.2.2.2.2.2.2.1.length = 32 then x.2.2.2.2.2.2.1 else Z32, by split; assumption; rfl⟩
theorem he_toH (x : HH) (h : x.2.2.2.2.2.2.1.length = 32) : he (toH x) = layH x := by
  unfold he toH
  simp only [if_pos h]
  rfl
theorem in_toH {w : World} {x : HH} (h : factH w x) : Hin w (toH x) := ⟨h.2.1, h.2.2.1⟩
theorem in_row {w : World} {s : Opn.Sl HH} (h : Opn.SlAt 38 layH factH w s) : St.At 38 he w s.a s.len (s.els.map toH) ∧ ∀ x ∈ s.els.map toH, Hin w x := by
  obtain ⟨h1, h2, h3, h4⟩ := h
  have hf : ∀ x ∈ s.els, factH w x := fun x hx => by
    rcases h4 with h4 | ⟨b, off, _, _, hr⟩
    · rw [h4] at h1
      rw [List.eq_nil_of_length_eq_zero h1] at hx
      cases hx
    · obtain ⟨i, hi⟩ := List.getElem?_of_mem hx
      exact (hr i x hi).2
  refine ⟨⟨by rw [List.length_map]; exact h1, Nat.le_trans h2 h3, h4.imp id ?_⟩, fun x hx => ?_⟩
  · rintro ⟨b, off, ha, hb, hr⟩
    refine ⟨b, off, ha, hb, fun i x hi => ?_⟩
    rw [List.getElem?_map] at hi
    cases hy : s.els[i]? with
    | none => rw [hy] at hi; cases hi
    | some y =>
      rw [hy] at hi
      cases hi
      rw [he_toH y (hr i y hy).2.1]
      exact (hr i y hy).1
  · obtain ⟨y, hy, rfl⟩ := List.mem_map.1 hx
    exact in_toH (hf y hy)
theorem ok_of {w : World} {x : Hh} (h : Hin w x) (hn : x.n ≤ 1000000) : Hok w x := ⟨h.1, hn, h.2⟩
end Nx
namespace Nx
open Oct Ids Gn Hd Ru
open Mem (M It blk ids rows)
def sm (x y : Hh) : Bool := smh x.l x.G x.T x.A x.Q x.Z x.m y.l y.G y.T y.A y.Q y.Z y.m
def twp (x y : Hh) : Bool := hck x == 0 && (hck y == 0 && (hiv x == hiv y && !(sm x y)))
/-- Two unlike ones that have one id. -/
def Tw (K : List Hh) : Prop := ∃ (i k : Nat) (x y : Hh), k < i ∧ K[i]? = some x ∧ K[k]? = some y ∧ twp x y = true
structure TwPost (w : World) (K : List Hh) (e : Ending) (w' : World) : Prop where
  ex : ∃ t, e = .returned (.bool t) ∧ Keep (fun _ => False) w w' ∧ (t = false → ¬ Tw K)
theorem TwPost.yes {w w' : World} {K : List Hh} (k : Keep (fun _ => False) w w') : TwPost w K (.returned (.bool true)) w' := ⟨⟨true, rfl, k, fun h => by cases h⟩⟩
theorem TwPost.no {w w' : World} {K : List Hh} (k : Keep (fun _ => False) w w') (h : ¬ Tw K) : TwPost w K (.returned (.bool false)) w' := ⟨⟨false, rfl, k, fun _ => h⟩⟩
set_option maxRecDepth 100000 in
set_option maxHeartbeats 8000000 in
theorem twins_any (w : World) (a : Option Addr) (n c : Nat) (K : List Hh) (hA : St.At 38 he w a n K) (hk : ∀ x ∈ K, Hok w x) (hn : n ≤ 1000000) :
    Calls Tryz.prog 15 #[.slice a n c] w (TwPost w K) := by
  have HA : Hid (St.At 38 he w a n K) := hA
  have HKo : Hid (∀ x ∈ K, Hok w x) := hk
  have HI0 : Hid (∀ x ∈ K, ∀ w', Keep (fun _ => False) w w' → Calls Tryz.prog 13 #[.agg (he x).toArray] w' fun e w'' => e = .returned (.tuple #[idv (hiv x), .int .i64 (hck x)]) ∧ Keep (fun _ => False) w' w'') := fun x hx w' k => hrident w' x ((hk x hx).calm k)
  have HM : Hid (M (fun _ => False) w w []) := M.start _ w
  clear hA hk
  go_enter Tryz.func15, Tryz.ntmps15
  go_wp2
  go_loopw [3] (fun i wr => ∃ (k : Nat), k ≤ n ∧ i = .int .i64 k ∧ (∀ (i' j : Nat) (x y : Hh), i' < k → j < i' → K[i']? = some x → K[j]? = some y → twp x y = false) ∧ M (fun _ => False) w wr []) (fun i _ => n - (intOf i).toNat)
  case atStart => exact ⟨0, Nat.zero_le _, rfl, fun i' j x y hi => absurd hi (Nat.not_lt_zero _), HM.out⟩
  case round =>
    clear HM
    obtain ⟨i, hin, rfl, hno, hM⟩ := hrel
    have HM : Hid _ := hM
    have HNo : Hid (∀ (i' j : Nat) (x y : Hh), i' < i → j < i' → K[i']? = some x → K[j]? = some y → twp x y = false) := hno
    clear hM hno
    by_cases hlt : i < n
    · obtain ⟨x, hx⟩ : ∃ x, K[i]? = some x := ⟨_, List.getElem?_eq_getElem (by rw [HA.out.len]; exact hlt)⟩
      obtain ⟨b1, o1, rfl, hb1, hr1⟩ : ∃ b off, a = some ⟨b, off, none⟩ ∧ b < w.heap.size ∧ ∀ i x, K[i]? = some x → w.rangeAt b (off + i * 38) (he x) := by rcases HA.out.lay with e | e; omega; exact e
      have HR : Hid (∀ i x, K[i]? = some x → w.rangeAt b1 (o1 + i * 38) (he x)) := hr1
      have HB1 : Hid (b1 < w.heap.size) := hb1
      have R1 : Hid (wr.rangeAt b1 (o1 + i * 38) (he x)) := HM.out.keep.range hb1 (fun h => h) (hr1 i x hx)
      have Hx : Hid (K[i]? = some x) := hx
      have HIx : Hid (∀ w', Keep (fun _ => False) w w' → Calls Tryz.prog 13 #[.agg (he x).toArray] w' fun e w'' => e = .returned (.tuple #[idv (hiv x), .int .i64 (hck x)]) ∧ Keep (fun _ => False) w' w'') := HI0.out x (List.mem_of_getElem? hx)
      have Hul : Hid ((hiv x).length = 32) := hiv_len x
      obtain ⟨u, hu⟩ : ∃ u, hiv x = u := ⟨_, rfl⟩
      obtain ⟨t, ht⟩ : ∃ t, hck x = t := ⟨_, rfl⟩
      have Hu : Hid (hiv x = u) := hu
      have Ht : Hid (hck x = t) := ht
      rw [hu, ht] at HIx
      rw [hu] at Hul
      have Hum : Hid ((u.map bv).toArray.size = 32) := by show _ = _; rw [List.size_toArray, List.length_map]; exact Hul.out
      clear hr1 hx hb1 hu ht
      go_wp2_with (first | ((with_reducible refine at_load 30 ?_); refine St.wl_load tyH (by rfl) rfl rfl R1.out (he_len x) ?_; simp only [Act.put, List.setIfInBounds_toArray, List.set_cons_zero, List.set_cons_succ]) | (go_at_call 13; refine (HIx.out _ HM.out.keep).mono ?_; rintro e w2 ⟨rfl, k2⟩; have HM : Hid _ := HM.out.calm k2; clear k2) | (refine St.wl_alloc tyI rfl rfl (by (try simp only [World.size_alloc]); rfl) ?_; simp only [Act.put, List.setIfInBounds_toArray, List.set_cons_zero, List.set_cons_succ]) | (refine St.wl_storeN (W := w2) tyI rfl rfl rfl rfl rfl (by (try simp only [World.size_alloc])) (show _ = Value.agg (u.map bv).toArray from rfl) Hum.out rfl (one_bv _) ?_; have HM : Hid _ := HM.out.alloc (.cells (u.map bv).toArray 28) rfl))
      obtain ⟨bu, hbu⟩ : ∃ b, w2.heap.size = b := ⟨_, rfl⟩
      rw [hbu] at HM
      rw [hbu]
      clear hbu
      go_loopw [6] (fun s wr => ∃ (k : Nat), k ≤ i ∧ s = .int .i64 k ∧ (∀ (j : Nat) (y : Hh), j < k → K[j]? = some y → twp x y = false) ∧ M (fun _ => False) w wr [blk bu (.cells (u.map bv).toArray 28)]) (fun s _ => i - (intOf s).toNat)
      case atStart => exact ⟨0, Nat.zero_le _, rfl, fun j y hj => absurd hj (Nat.not_lt_zero _), HM.out⟩
      case round =>
        clear HM R1
        obtain ⟨k, hki, rfl, hno2, hM⟩ := hrel
        have HM : Hid _ := hM
        have HN2 : Hid (∀ (j : Nat) (y : Hh), j < k → K[j]? = some y → twp x y = false) := hno2
        clear hM hno2
        by_cases hlt2 : k < i
        · have hkn : k < n := by omega
          obtain ⟨y, hy⟩ : ∃ x, K[k]? = some x := ⟨_, List.getElem?_eq_getElem (by rw [HA.out.len]; exact hkn)⟩
          have Hy : Hid (K[k]? = some y) := hy
          have R2 : Hid (wr.rangeAt b1 (o1 + k * 38) (he y)) := HM.out.keep.range HB1.out (fun h => h) (HR.out k y hy)
          have HIy : Hid (∀ w', Keep (fun _ => False) w w' → Calls Tryz.prog 13 #[.agg (he y).toArray] w' fun e w'' => e = .returned (.tuple #[idv (hiv y), .int .i64 (hck y)]) ∧ Keep (fun _ => False) w' w'') := HI0.out y (List.mem_of_getElem? hy)
          have Hvl : Hid ((hiv y).length = 32) := hiv_len y
          obtain ⟨v, hv⟩ : ∃ u, hiv y = u := ⟨_, rfl⟩
          obtain ⟨t2, ht2⟩ : ∃ t, hck y = t := ⟨_, rfl⟩
          have Hv : Hid (hiv y = v) := hv
          have Ht2 : Hid (hck y = t2) := ht2
          rw [hv, ht2] at HIy
          rw [hv] at Hvl
          have Hvm : Hid ((v.map bv).toArray.size = 32) := by show _ = _; rw [List.size_toArray, List.length_map]; exact Hvl.out
          obtain ⟨b, hb⟩ : ∃ b, (u == v) = b := ⟨_, rfl⟩
          obtain ⟨s, hs⟩ : ∃ b, sm x y = b := ⟨_, rfl⟩
          have hcmp : ∀ w, Sem.run Tryz.prog (binOp .eql 28 (idv u) (idv v)) w = .ok (.bool b) w := fun w => by rw [eql_id w u v Hul.out Hvl.out, hb]
          have HTP : Hid (twp x y = (t == 0 && (t2 == 0 && (b && !s)))) := by show _ = _; unfold twp; rw [Ht.out, Ht2.out, Hu.out, Hv.out, hb, hs]
          have HSm : Hid (∀ w', Keep (fun _ => False) w w' → Calls Tryz.prog 20 #[.agg (he x).toArray, .agg (he y).toArray] w' fun e w'' => e = .returned (.bool s) ∧ Keep (fun _ => False) w' w'') := fun w' k' => rsame_h w' x.a y.a x.n x.c y.n y.c x.l y.l x.G y.G x.T y.T x.A y.A x.Q y.Q x.Z y.Z x.m y.m x.hm y.hm ((HKo.out x (List.mem_of_getElem? Hx.out)).1.calm k') ((HKo.out y (List.mem_of_getElem? hy)).1.calm k') s hs
          have HNX : Hid (twp x y = false → ∀ (j : Nat) (z : Hh), j < k + 1 → K[j]? = some z → twp x z = false) := fun h j z hj hz => by
            rcases Nat.lt_or_ge j k with h1 | h1
            · exact HN2.out j z h1 hz
            · obtain rfl : j = k := by omega
              rw [hy] at hz
              cases hz
              exact h
          clear hy hv ht2 hb hs
          go_wp2_with (first | ((with_reducible refine at_load 30 ?_); refine St.wl_load tyH (by rfl) rfl rfl R2.out (he_len y) ?_; simp only [Act.put, List.setIfInBounds_toArray, List.set_cons_zero, List.set_cons_succ]) | (go_at_call 13; refine (HIy.out _ HM.out.keep).mono ?_; rintro e w3 ⟨rfl, k3⟩; have HM : Hid _ := HM.out.calm k3; clear k3) | (refine St.wl_alloc tyI rfl rfl (by (try simp only [World.size_alloc]); rfl) ?_; simp only [Act.put, List.setIfInBounds_toArray, List.set_cons_zero, List.set_cons_succ]) | (refine St.wl_storeN (W := w3) tyI rfl rfl rfl rfl rfl (by (try simp only [World.size_alloc])) (show _ = Value.agg (v.map bv).toArray from rfl) Hvm.out rfl (one_bv _) ?_; have HM : Hid _ := HM.out.alloc (.cells (v.map bv).toArray 28) rfl))
          have HM : Hid _ := HM.out.drew
          have R1 : Hid (World.rangeAt _ b1 (o1 + i * 38) (he x)) := HM.out.keep.range HB1.out (fun h => h) (HR.out i x Hx.out)
          have R2 : Hid (World.rangeAt _ b1 (o1 + k * 38) (he y)) := HM.out.keep.range HB1.out (fun h => h) (HR.out k y Hy.out)
          by_cases h0 : t = 0
          case neg =>
            have h1 : (t == 0) = false := by simpa using h0
            have HF0 : Hid (twp x y = false) := by show _ = _; rw [HTP.out, h1]; rfl
            clear h0 hcmp
            refine Txt.wp_region_text (fun _ => True) [0, 0, 0, 0, 0, 0, 0, 1, 1, 0, 0, 0, 0, 0, 0, 1, 0, 0, 0, 1, 4, 0, 0] (by kernel_rfl) (by kernel_rfl) trivial ?_
            (repeat (first | (refine Txt.tl_pure (v := ?_) (by rfl) ?_ ?_; rotate_left; (focus (intro _; go_simp; try with_reducible rfl)); simp only [Act.put, List.setIfInBounds_toArray, List.set_cons_zero, List.set_cons_succ]) | (refine Txt.tl_skip (by rfl) trivial ?_; simp only [Act.put, List.setIfInBounds_toArray, List.set_cons_zero, List.set_cons_succ]) | (refine Txt.tl_rowN (n := 32) (ty := 28) (by rfl) (by rfl) (by rfl) (HM.out.range 0 rfl) (by kernel_rfl) (by rw [List.length_map]; exact Hul.out) ?_; simp only [Act.put, List.setIfInBounds_toArray, List.set_cons_zero, List.set_cons_succ]) | (refine Txt.tl_rowN (n := 32) (ty := 28) (by rfl) (by rfl) (by rfl) (HM.out.range 1 rfl) (by kernel_rfl) (by rw [List.length_map]; exact Hvl.out) ?_; simp only [Act.put, List.setIfInBounds_toArray, List.set_cons_zero, List.set_cons_succ]) | (refine Txt.tl_rowN (n := 38) (ty := 30) (by rfl) (by rfl) (by rfl) R1.out (by kernel_rfl) (he_len x) ?_; simp only [Act.put, List.setIfInBounds_toArray, List.set_cons_zero, List.set_cons_succ]) | (refine Txt.tl_rowN (n := 38) (ty := 30) (by rfl) (by rfl) (by rfl) R2.out (by kernel_rfl) (he_len y) ?_; simp only [Act.put, List.setIfInBounds_toArray, List.set_cons_zero, List.set_cons_succ])))
            refine Txt.tl_nil ?_
            go_wp2
            go_roundw
            case rel => exact ⟨k + 1, by omega, rfl, HNX.out HF0.out, HM.out.take 1⟩
            case measure => simp [intOf]; omega
          subst h0
          by_cases h2 : t2 = 0
          case neg =>
            have h1 : (t2 == 0) = false := by simpa using h2
            have HF0 : Hid (twp x y = false) := by show _ = _; rw [HTP.out, h1]; rfl
            clear h2 hcmp
            refine Txt.wp_region_text (fun _ => True) [0, 0, 0, 0, 0, 0, 0, 1, 1, 0, 0, 0, 0, 0, 0, 1, 0, 0, 0, 1, 4, 0, 0] (by kernel_rfl) (by kernel_rfl) trivial ?_
            (repeat (first | (refine Txt.tl_pure (v := ?_) (by rfl) ?_ ?_; rotate_left; (focus (intro _; go_simp; try with_reducible rfl)); simp only [Act.put, List.setIfInBounds_toArray, List.set_cons_zero, List.set_cons_succ]) | (refine Txt.tl_skip (by rfl) trivial ?_; simp only [Act.put, List.setIfInBounds_toArray, List.set_cons_zero, List.set_cons_succ]) | (refine Txt.tl_rowN (n := 32) (ty := 28) (by rfl) (by rfl) (by rfl) (HM.out.range 0 rfl) (by kernel_rfl) (by rw [List.length_map]; exact Hul.out) ?_; simp only [Act.put, List.setIfInBounds_toArray, List.set_cons_zero, List.set_cons_succ]) | (refine Txt.tl_rowN (n := 32) (ty := 28) (by rfl) (by rfl) (by rfl) (HM.out.range 1 rfl) (by kernel_rfl) (by rw [List.length_map]; exact Hvl.out) ?_; simp only [Act.put, List.setIfInBounds_toArray, List.set_cons_zero, List.set_cons_succ]) | (refine Txt.tl_rowN (n := 38) (ty := 30) (by rfl) (by rfl) (by rfl) R1.out (by kernel_rfl) (he_len x) ?_; simp only [Act.put, List.setIfInBounds_toArray, List.set_cons_zero, List.set_cons_succ]) | (refine Txt.tl_rowN (n := 38) (ty := 30) (by rfl) (by rfl) (by rfl) R2.out (by kernel_rfl) (he_len y) ?_; simp only [Act.put, List.setIfInBounds_toArray, List.set_cons_zero, List.set_cons_succ])))
            refine Txt.tl_nil ?_
            go_wp2
            go_roundw
            case rel => exact ⟨k + 1, by omega, rfl, HNX.out HF0.out, HM.out.take 1⟩
            case measure => simp [intOf]; omega
          subst h2
          cases b with
          | false =>
            have HF0 : Hid (twp x y = false) := by show _ = _; rw [HTP.out]; rfl
            refine Txt.wp_region_text (fun _ => True) [0, 0, 0, 0, 0, 0, 0, 1, 1, 0, 0, 0, 0, 0, 0, 1, 0, 0, 0, 1, 4, 0, 0] (by kernel_rfl) (by kernel_rfl) trivial ?_
            (repeat (first | (refine Txt.tl_pure (v := ?_) (by rfl) ?_ ?_; rotate_left; (focus (intro _; go_simp; try with_reducible rfl)); simp only [Act.put, List.setIfInBounds_toArray, List.set_cons_zero, List.set_cons_succ]) | (refine Txt.tl_skip (by rfl) trivial ?_; simp only [Act.put, List.setIfInBounds_toArray, List.set_cons_zero, List.set_cons_succ]) | (refine Txt.tl_rowN (n := 32) (ty := 28) (by rfl) (by rfl) (by rfl) (HM.out.range 0 rfl) (by kernel_rfl) (by rw [List.length_map]; exact Hul.out) ?_; simp only [Act.put, List.setIfInBounds_toArray, List.set_cons_zero, List.set_cons_succ]) | (refine Txt.tl_rowN (n := 32) (ty := 28) (by rfl) (by rfl) (by rfl) (HM.out.range 1 rfl) (by kernel_rfl) (by rw [List.length_map]; exact Hvl.out) ?_; simp only [Act.put, List.setIfInBounds_toArray, List.set_cons_zero, List.set_cons_succ]) | (refine Txt.tl_rowN (n := 38) (ty := 30) (by rfl) (by rfl) (by rfl) R1.out (by kernel_rfl) (he_len x) ?_; simp only [Act.put, List.setIfInBounds_toArray, List.set_cons_zero, List.set_cons_succ]) | (refine Txt.tl_rowN (n := 38) (ty := 30) (by rfl) (by rfl) (by rfl) R2.out (by kernel_rfl) (he_len y) ?_; simp only [Act.put, List.setIfInBounds_toArray, List.set_cons_zero, List.set_cons_succ])))
            refine Txt.tl_nil ?_
            go_wp2
            go_roundw
            case rel => exact ⟨k + 1, by omega, rfl, HNX.out HF0.out, HM.out.take 1⟩
            case measure => simp [intOf]; omega
          | true =>
            refine Txt.wp_region_text (fun _ => True) [0, 0, 0, 0, 0, 0, 0, 1, 1, 0, 0, 0, 0, 0, 0, 1, 0, 0, 0, 1, 4, 0, 0] (by kernel_rfl) (by kernel_rfl) trivial ?_
            (repeat (first | (refine Txt.tl_pure (v := ?_) (by rfl) ?_ ?_; rotate_left; (focus (intro _; go_simp; try with_reducible rfl)); simp only [Act.put, List.setIfInBounds_toArray, List.set_cons_zero, List.set_cons_succ]) | (refine Txt.tl_skip (by rfl) trivial ?_; simp only [Act.put, List.setIfInBounds_toArray, List.set_cons_zero, List.set_cons_succ]) | (refine Txt.tl_rowN (n := 32) (ty := 28) (by rfl) (by rfl) (by rfl) (HM.out.range 0 rfl) (by kernel_rfl) (by rw [List.length_map]; exact Hul.out) ?_; simp only [Act.put, List.setIfInBounds_toArray, List.set_cons_zero, List.set_cons_succ]) | (refine Txt.tl_rowN (n := 32) (ty := 28) (by rfl) (by rfl) (by rfl) (HM.out.range 1 rfl) (by kernel_rfl) (by rw [List.length_map]; exact Hvl.out) ?_; simp only [Act.put, List.setIfInBounds_toArray, List.set_cons_zero, List.set_cons_succ]) | (refine Txt.tl_rowN (n := 38) (ty := 30) (by rfl) (by rfl) (by rfl) R1.out (by kernel_rfl) (he_len x) ?_; simp only [Act.put, List.setIfInBounds_toArray, List.set_cons_zero, List.set_cons_succ]) | (refine Txt.tl_rowN (n := 38) (ty := 30) (by rfl) (by rfl) (by rfl) R2.out (by kernel_rfl) (he_len y) ?_; simp only [Act.put, List.setIfInBounds_toArray, List.set_cons_zero, List.set_cons_succ])))
            refine Txt.tl_call Tryz.func20 (by kernel_rfl) (by kernel_rfl) (by rfl) (by rfl) (by rfl) (vs := #[.agg (he x).toArray, .agg (he y).toArray]) (HSm.out _ HM.out.keep) ?_
            rintro e w4 ⟨rfl, k4⟩
            have HM : Hid _ := HM.out.calm k4
            clear k4
            refine ⟨_, rfl, trivial, ?_⟩
            simp only [Act.put, List.setIfInBounds_toArray, List.set_cons_zero, List.set_cons_succ]
            cases s with
            | false =>
              (repeat (first | (refine Txt.tl_pure (v := ?_) (by rfl) ?_ ?_; rotate_left; (focus (intro _; go_simp; try with_reducible rfl)); simp only [Act.put, List.setIfInBounds_toArray, List.set_cons_zero, List.set_cons_succ]) | (refine Txt.tl_skip (by rfl) trivial ?_; simp only [Act.put, List.setIfInBounds_toArray, List.set_cons_zero, List.set_cons_succ]) | (refine Txt.tl_rowN (n := 32) (ty := 28) (by rfl) (by rfl) (by rfl) (HM.out.range 0 rfl) (by kernel_rfl) (by rw [List.length_map]; exact Hul.out) ?_; simp only [Act.put, List.setIfInBounds_toArray, List.set_cons_zero, List.set_cons_succ]) | (refine Txt.tl_rowN (n := 32) (ty := 28) (by rfl) (by rfl) (by rfl) (HM.out.range 1 rfl) (by kernel_rfl) (by rw [List.length_map]; exact Hvl.out) ?_; simp only [Act.put, List.setIfInBounds_toArray, List.set_cons_zero, List.set_cons_succ]) | (refine Txt.tl_rowN (n := 38) (ty := 30) (by rfl) (by rfl) (by rfl) R1.out (by kernel_rfl) (he_len x) ?_; simp only [Act.put, List.setIfInBounds_toArray, List.set_cons_zero, List.set_cons_succ]) | (refine Txt.tl_rowN (n := 38) (ty := 30) (by rfl) (by rfl) (by rfl) R2.out (by kernel_rfl) (he_len y) ?_; simp only [Act.put, List.setIfInBounds_toArray, List.set_cons_zero, List.set_cons_succ])))
              refine Txt.tl_nil ?_
              go_wp2
              go_ret
              exact TwPost.yes HM.out.keep
            | true =>
              have HF0 : Hid (twp x y = false) := by show _ = _; rw [HTP.out]; rfl
              (repeat (first | (refine Txt.tl_pure (v := ?_) (by rfl) ?_ ?_; rotate_left; (focus (intro _; go_simp; try with_reducible rfl)); simp only [Act.put, List.setIfInBounds_toArray, List.set_cons_zero, List.set_cons_succ]) | (refine Txt.tl_skip (by rfl) trivial ?_; simp only [Act.put, List.setIfInBounds_toArray, List.set_cons_zero, List.set_cons_succ]) | (refine Txt.tl_rowN (n := 32) (ty := 28) (by rfl) (by rfl) (by rfl) (HM.out.range 0 rfl) (by kernel_rfl) (by rw [List.length_map]; exact Hul.out) ?_; simp only [Act.put, List.setIfInBounds_toArray, List.set_cons_zero, List.set_cons_succ]) | (refine Txt.tl_rowN (n := 32) (ty := 28) (by rfl) (by rfl) (by rfl) (HM.out.range 1 rfl) (by kernel_rfl) (by rw [List.length_map]; exact Hvl.out) ?_; simp only [Act.put, List.setIfInBounds_toArray, List.set_cons_zero, List.set_cons_succ]) | (refine Txt.tl_rowN (n := 38) (ty := 30) (by rfl) (by rfl) (by rfl) R1.out (by kernel_rfl) (he_len x) ?_; simp only [Act.put, List.setIfInBounds_toArray, List.set_cons_zero, List.set_cons_succ]) | (refine Txt.tl_rowN (n := 38) (ty := 30) (by rfl) (by rfl) (by rfl) R2.out (by kernel_rfl) (he_len y) ?_; simp only [Act.put, List.setIfInBounds_toArray, List.set_cons_zero, List.set_cons_succ])))
              refine Txt.tl_nil ?_
              go_wp2
              go_roundw
              case rel => exact ⟨k + 1, by omega, rfl, HNX.out HF0.out, HM.out.take 1⟩
              case measure => simp [intOf]; omega
        · obtain rfl : k = i := by omega
          go_wp2
          go_roundw
          case rel =>
            refine ⟨k + 1, by omega, rfl, fun i' j x' y' hi hj hx' hy' => ?_, HM.out.take 0⟩
            rcases Nat.lt_or_ge i' k with h1 | h1
            · exact HNo.out i' j x' y' h1 hj hx' hy'
            · obtain rfl : i' = k := by omega
              rw [Hx.out] at hx'
              cases hx'
              exact HN2.out j y' hj hy'
          case measure => simp [intOf]; omega
    · obtain rfl : i = n := by omega
      have HE : Hid (¬ Tw K) := fun ⟨i', j, x, y, hj, hx, hy, hp⟩ => by
        have := HNo.out i' j x y (by have := (List.getElem?_eq_some_iff.1 hx).1; rw [HA.out.len] at this; exact this) hj hx hy
        rw [this] at hp
        cases hp
      go_wp2
      go_ret
      exact TwPost.no HM.out.keep HE.out
end Nx
end Go.Proofs.YtpchpdnjgdpdgaaGreatDoor
