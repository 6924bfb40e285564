/-
  Arrays of numbers in tables, as they are read. What the laid tables of sha hold, out of the rows' condition; the opening of an id that comes in by value. The door 'awake' of petrellaw15; headers that came in.
-/
import Derived.Test.YtdpkklinpbmkfaaGreatDoorGMm
import Derived.Test.YtdpkklinpbmkfaaGreatDoorRows
import Derived.MakeChecks
import Derived.LaidMore
import Derived.OpenShut
import Derived.Lay
import Derived.ProofKit
import Derived.Test.YtdpkklinpbmkfaaGreatDoorGOp
import Derived.Test.YtdpkklinpbmkfaaGreatDoorGSh
import Derived.Test.YtdpkklinpbmkfaaGreatDoorNx7
set_option linter.unusedVariables false
set_option linter.unusedSimpArgs false

namespace Go.Proofs.YtdpkklinpbmkfaaGreatDoor
open Go.RowKit
namespace Lad
open Go.ChangeShapes Go.WideShapes Go.ChangeAt
/-- An array of whole numbers, as it is read: its cells. -/
theorem arr_cells {H : Type} {enc : TypeId × Value → H} {P : Program} {w : World} {base : Nat} {spare : TypeId → Bool} {held : Bool} {fuel : Nat} {t e : TypeId} {n : Nat} {k : IntKind} {cs : List Value} {vals : List Int} {q : List MemPlace} (ht : P.underlying t = some (.array n e)) (he : P.underlying e = some (.int k)) (hc : P.cellsOf e = 1)
    (h : DataW.trod enc P w base spare held fuel t cs = some (.agg (vals.map fun x => .lit (.int k x)), q)) (hn : vals.length = n) : ∀ (i : Nat) (x : Int), vals[i]? = some x → cs[i]? = some (Value.int k x) := by
  obtain ⟨xs, m, rfl, hx, hlen, hxn, hel⟩ := DataW.trod_array ht h
  intro i x hi
  have hin : i < n := by rw [← hn]; exact (List.getElem?_eq_some_iff.1 hi).1
  simp only [Prod.mk.injEq, DataW.agg.injEq] at hx
  obtain ⟨hx1, _⟩ := hx
  have h1 := hel i hin
  obtain ⟨y, hy⟩ : ∃ y, xs[i]? = some y := ⟨_, List.getElem?_eq_getElem (by rw [hxn]; exact hin)⟩
  rw [hy] at h1
  obtain ⟨z, e1, e2, _⟩ := DataW.trod_int he h1
  have h2 : (vals.map fun x => (DataW.lit (.int k x) : DataW H))[i]? = (xs.map (·.1))[i]? := by rw [hx1]
  rw [List.getElem?_map, List.getElem?_map, hi, hy, e2] at h2
  simp at h2
  subst h2
  rw [hc, Nat.mul_one] at e1
  have h3 : ((cs.drop i).take 1)[0]? = some (.int k x) := by rw [e1]; rfl
  rw [List.getElem?_take_of_lt (by omega), List.getElem?_drop] at h3
  simpa using h3
theorem tab_of {P : Program} {W : World} {name : String} {g : Nat} {cs : Array Value} (hg : P.globalNamed name = some g) (hv : W.var? P name = some cs) {L : List Value} (h : ∀ (i : Nat) (x : Value), L[i]? = some x → cs.toList[i]? = some x) (hne : L ≠ []) : g < W.heap.size ∧ W.rangeAt g 0 L := by
  have hr : W.rangeAt g 0 L := fun i x hi => by
    rw [Nat.zero_add, World.var?_cell hg hv i, ← Array.getElem?_toList]
    exact h i x hi
  refine ⟨?_, hr⟩
  obtain ⟨x, hx⟩ : ∃ x, L[0]? = some x := by
    cases L with
    | nil => exact absurd rfl hne
    | cons y _ => exact ⟨y, rfl⟩
  have h0 := hr 0 x hx
  unfold World.cell? at h0
  cases hb : W.heap[g]? with
  | none => rw [show (⟨g, 0 + 0, none⟩ : Addr).block = g from rfl, hb] at h0; simp at h0
  | some o => exact lt_of_block hb
end Lad
end Go.Proofs.YtdpkklinpbmkfaaGreatDoor


namespace Go.Proofs.YtdpkklinpbmkfaaGreatDoor
open Go.RowKit
namespace Lad
open Go.ChangeShapes Go.WideShapes Go.ChangeAt
theorem gFirst : Tryz.prog.globalNamed "petrel/sha.first" = some 0 := by kernel_rfl
theorem gK : Tryz.prog.globalNamed "petrel/sha.k" = some 1 := by kernel_rfl
def FV : List Int := Sha.H0.map fun x => (x.toNat : Int)
def KV : List Int := Sha.K.map fun x => (x.toNat : Int)
theorem sha_of {W : World} (h : laidMetH Tryz.prog [("petrel/sha.first", Rows.laid_petrel_sha_first), ("petrel/sha.k", Rows.laid_petrel_sha_k)] W) : Sha.TabF W ∧ Sha.TabK W := by
  rw [MakeChecks.laidMetH_plain _ _ _ (by kernel_rfl)] at h
  obtain ⟨ps, ⟨g0, t0, cs0, f0, p0, q0, hg0, ht0, hv0, hd0, ⟨g1, t1, cs1, f1, p1, q1, hg1, ht1, hv1, hd1, _, _⟩, _⟩, _, _⟩ := h
  obtain rfl := Option.some.inj (gFirst.symm.trans hg0)
  obtain rfl := Option.some.inj (gK.symm.trans hg1)
  have tF : (Tryz.prog.globals[0]?).map (·.type) = some 134 := by kernel_rfl
  obtain rfl := Option.some.inj (tF.symm.trans ht0)
  have tK : (Tryz.prog.globals[1]?).map (·.type) = some 168 := by kernel_rfl
  obtain rfl := Option.some.inj (tK.symm.trans ht1)
  have hf := arr_cells (vals := FV) (k := .u32) Tryz.underlying134 Tryz.underlying133 (by kernel_rfl) hd0 rfl
  have hk := arr_cells (vals := KV) (k := .u32) Tryz.underlying168 Tryz.underlying133 (by kernel_rfl) hd1 rfl
  have hF := tab_of gFirst hv0 (L := Sha.H0.map Sha.uv) (fun i x hi => by
    rw [List.getElem?_map] at hi
    cases hx : Sha.H0[i]? with
    | none => rw [hx] at hi; cases hi
    | some y =>
      rw [hx] at hi
      cases hi
      exact hf i _ (by unfold FV; rw [List.getElem?_map, hx]; rfl)) (by decide)
  have hK := tab_of gK hv1 (L := Sha.K.map Sha.uv) (fun i x hi => by
    rw [List.getElem?_map] at hi
    cases hx : Sha.K[i]? with
    | none => rw [hx] at hi; cases hi
    | some y =>
      rw [hx] at hi
      cases hi
      exact hk i _ (by unfold KV; rw [List.getElem?_map, hx]; rfl)) (by decide)
  refine ⟨hF, hK.1, fun i hi => ?_⟩
  have h := hK.2 i (Sha.uv (Sha.K.getD i 0)) (by
    have e : i < Sha.K.length := hi
    rw [List.getElem?_map, List.getD_eq_getElem?_getD, List.getElem?_eq_getElem e]; rfl)
  rwa [Nat.zero_add] at h
end Lad
end Go.Proofs.YtdpkklinpbmkfaaGreatDoor


namespace Go.Proofs.YtdpkklinpbmkfaaGreatDoor
open Go.RowKit
namespace Nx
open Oct Ids Gn Hd Ru
open Mem (M It blk ids rows)
abbrev caT : ByteArray := ⟨#[99, 97]⟩
/-- A header that came in, as a record. -/
def toH (x : HH) : Hh := ⟨x.1.a, x.1.len, x.1.cap, x.1.els, x.2.1, x.2.2.1, x.2.2.2.1, x.2.2.2.2.1, x.2.2.2.2.2.1, if x.2.2.2.2.2.2.1.length = 32 then x.2.2.2.2.2.2.1 else Z32, by split; assumption; rfl⟩
theorem he_toH (x : HH) (h : x.2.2.2.2.2.2.1.length = 32) : he (toH x) = layH x := by
  unfold he toH
  simp only [if_pos h]
  rfl
theorem in_toH {w : World} {x : HH} (h : factH w x) : Hin w (toH x) := ⟨h.2.1, h.2.2.1⟩
theorem in_row {w : World} {s : Opn.Sl HH} (h : Opn.SlAt 38 layH factH w s) : St.At 38 he w s.a s.len (s.els.map toH) ∧ ∀ x ∈ s.els.map toH, Hin w x := by
  obtain ⟨h1, h2, h3, h4⟩ := h
  have hf : ∀ x ∈ s.els, factH w x := fun x hx => by
    rcases h4 with h4 | ⟨b, off, _, _, hr⟩
    · rw [h4] at h1
      rw [List.eq_nil_of_length_eq_zero h1] at hx
      cases hx
    · obtain ⟨i, hi⟩ := List.getElem?_of_mem hx
      exact (hr i x hi).2
  refine ⟨⟨by rw [List.length_map]; exact h1, Nat.le_trans h2 h3, h4.imp id ?_⟩, fun x hx => ?_⟩
  · rintro ⟨b, off, ha, hb, hr⟩
    refine ⟨b, off, ha, hb, fun i x hi => ?_⟩
    rw [List.getElem?_map] at hi
    cases hy : s.els[i]? with
    | none => rw [hy] at hi; cases hi
    | some y =>
      rw [hy] at hi
      cases hi
      rw [he_toH y (hr i y hy).2.1]
      exact (hr i y hy).1
  · obtain ⟨y, hy, rfl⟩ := List.mem_map.1 hx
    exact in_toH (hf y hy)
theorem ok_of {w : World} {x : Hh} (h : Hin w x) (hn : x.n ≤ 1000000) : Hok w x := ⟨h.1, hn, h.2⟩
/-- What two calls of 'Next' come to, both from one row of heads. -/
theorem next_two (K : List Hh) (T : ByteArray) (A Q Z : Int) (m : List UInt8) :
    (∃ v, ∀ w e w', NextPost w K T A Q Z m e w' → e = .returned (.tuple #[.agg hz0, .int .i64 v]) ∧ Keep (fun _ => False) w w') ∨
    (∃ l G, ck l.length l G T A Q Z = 0 ∧ l = selL K ∧ G = selG K ∧ bad K = none ∧ ∀ w e w', NextPost w K T A Q Z m e w' → ∃ a c, e = .returned (.tuple #[.agg (hd (.slice a l.length c) G T A Q Z m).toArray, .int .i64 0]) ∧ New w w' (.slice a l.length c) l) := by
  cases hb : bad K with
  | some v =>
    refine .inl ⟨v, fun w e w' h => ?_⟩
    rcases h with ⟨v', h1, h2, h3⟩ | ⟨h1, _⟩
    · rw [hb] at h1; cases h1; exact ⟨h2, h3⟩
    · rw [hb] at h1; cases h1
  | none =>
    by_cases hc : ck (selL K).length (selL K) (selG K) T A Q Z = 0
    · refine .inr ⟨selL K, selG K, hc, rfl, rfl, rfl, fun w e w' h => ?_⟩
      rcases h with ⟨v', h1, _⟩ | ⟨_, ⟨h1, _⟩ | ⟨_, h2⟩⟩
      · rw [hb] at h1; cases h1
      · exact absurd hc h1
      · exact h2
    · refine .inl ⟨ck (selL K).length (selL K) (selG K) T A Q Z, fun w e w' h => ?_⟩
      rcases h with ⟨v', h1, _⟩ | ⟨_, ⟨_, h2⟩ | ⟨h1, _⟩⟩
      · rw [hb] at h1; cases h1
      · exact h2
      · exact absurd h1 hc
theorem sel_nil : selL [] = [] ∧ selG [] = 1 := by
  constructor
  · simp [selL, sel, srtD, IdL.setL]
  · simp [selG, sel, srtD, most]
theorem sel_one (x : Hh) : selL [x] = [hiv x] ∧ selG [x] = max 0 (min x.G 1073741824) + 1 := by
  constructor
  · simp [selL, sel, srtD, IdL.setL, IdL.withL, hkey]
  · simp [selG, sel, srtD, most, hkey]
theorem ck_a : ck 0 [] 1 caT 1 1 1 = 0 := by decide +kernel
theorem isL_one (u : List UInt8) : isL [u] = true := by
  unfold isL
  simp [IdL.setL, IdL.withL]
theorem ck_b (u : List UInt8) : ck 1 [u] 2 caT 1 2 1 = 0 := by
  unfold ck kl
  rw [isL_one]
  decide +kernel
def hA1 (a : Option Addr) (c : Nat) : Hh := ⟨a, 0, c, [], 1, caT, 1, 1, 1, Z32, rfl⟩
def u1 : List UInt8 := Hd.iv 0 [] 1 caT 1 1 1 Z32
def hB1 (a : Option Addr) (c : Nat) : Hh := ⟨a, 1, c, [u1], 2, caT, 1, 2, 1, Z32, rfl⟩
theorem hiv_A1 (a : Option Addr) (c : Nat) : hiv (hA1 a c) = u1 := rfl
theorem hck_A1 (a : Option Addr) (c : Nat) : hck (hA1 a c) = 0 := ck_a
theorem hck_B1 (a : Option Addr) (c : Nat) : hck (hB1 a c) = 0 := ck_b u1
theorem look_A1 (a : Option Addr) (c : Nat) : Ru.look [hA1 a c] u1 = some (hA1 a c) := by
  unfold Ru.look
  have : hits u1 (hA1 a c) = true := by unfold hits; rw [hck_A1, hiv_A1]; simp
  simp [this]
theorem vrd_1 (a a' : Option Addr) (c c' : Nat) : vrd (hB1 a' c') [hA1 a c] = 0 := by
  have hu : unk [hA1 a c] [u1] = [] := by unfold unk; simp [look_A1]
  have hk : kn [hA1 a c] [u1] = [hA1 a c] := by unfold kn; simp [look_A1]
  unfold vrd
  rw [if_pos (hck_B1 _ _), show (hB1 a' c').l = [u1] from rfl, hu, hk]
  rfl
theorem vrd_0 (a' : Option Addr) (c' : Nat) : vrd (hB1 a' c') [] = 11 := by
  have hu : unk [] [u1] = [u1] := by unfold unk; simp [Ru.look]
  unfold vrd
  rw [if_pos (hck_B1 _ _), show (hB1 a' c').l = [u1] from rfl, hu]
  rfl
theorem next_1 (w : World) : Calls Tryz.prog 31 #[.slice none 0 0, .string caT, .int .i64 1, .int .i64 1, .int .i64 1, .agg z32] w fun e w' => ∃ a c, e = .returned (.tuple #[.agg (he (hA1 a c)).toArray, .int .i64 0]) ∧ New w w' (.slice a 0 c) [] := by
  rw [show Value.agg z32 = idv Z32 from rfl]
  refine (next_nil w none 0 caT 1 1 1 Z32 rfl (by unfold maxLen; exact Nat.le_trans (by decide : caT.size ≤ 2) (by omega))).mono fun e w' h => ?_
  rcases h with ⟨v', h1, _⟩ | ⟨_, ⟨h1, _⟩ | ⟨_, h2⟩⟩
  · cases h1
  · rw [sel_nil.1, sel_nil.2] at h1
    exact absurd ck_a h1
  · rw [sel_nil.1, sel_nil.2] at h2
    exact h2
theorem next_2 (w : World) (hF : Sha.TabF w) (hKt : Sha.TabK w) (a : Option Addr) (c : Nat) (a1 : Option Addr) (c1 : Nat) (hA : St.At 38 he w a 1 [hA1 a1 c1]) :
    Calls Tryz.prog 31 #[.slice a 1 c, .string caT, .int .i64 1, .int .i64 2, .int .i64 1, .agg z32] w fun e w' => ∃ a2 c2, e = .returned (.tuple #[.agg (he (hB1 a2 c2)).toArray, .int .i64 0]) ∧ New w w' (.slice a2 1 c2) [u1] := by
  have hsel := sel_one (hA1 a1 c1)
  rw [hiv_A1] at hsel
  have hg : selG [hA1 a1 c1] = 2 := hsel.2
  rw [show Value.agg z32 = idv Z32 from rfl]
  refine (next_any w hF hKt a 1 c [hA1 a1 c1] hA (fun x hx => by obtain rfl := List.mem_singleton.1 hx; exact ⟨⟨rfl, by simp [hA1], Nat.zero_le _, .inl rfl⟩, Nat.zero_le _, by unfold maxLen; exact Nat.le_trans (by decide : caT.size ≤ 2) (by omega)⟩) (by omega) caT 1 2 1 Z32 rfl (by unfold maxLen; exact Nat.le_trans (by decide : caT.size ≤ 2) (by omega))).mono fun e w' h => ?_
  rcases h with ⟨v', h1, _⟩ | ⟨_, ⟨h1, _⟩ | ⟨_, h2⟩⟩
  · have : bad [hA1 a1 c1] = none := bad_none (fun j y hj => by
      have hj0 : j = 0 := by have h1 := (List.getElem?_eq_some_iff.1 hj).1; have h2 : [hA1 a1 c1].length = 1 := rfl; omega
      subst hj0
      cases hj
      exact hck_A1 _ _)
    rw [this] at h1
    cases h1
  · rw [hsel.1, hg] at h1
    exact absurd (ck_b u1) h1
  · rw [hsel.1, hg] at h2
    exact h2
set_option maxRecDepth 100000 in
set_option maxHeartbeats 4000000 in
theorem awake15 (w : World) (hF : Sha.TabF w) (hK : Sha.TabK w) : Calls Tryz.prog 30 #[] w fun e w' => e = .returned (.bool true) ∧ Keep (fun _ => False) w w' := by
  have HF : Hid (Sha.TabF w) := hF
  have HK : Hid (Sha.TabK w) := hK
  have HM : Hid (M (fun _ => False) w w []) := M.start _ w
  have Hok1 : Hid (∀ w a c, Hok w (hA1 a c)) := fun w a c => ⟨⟨rfl, by simp [hA1], Nat.zero_le _, .inl rfl⟩, Nat.zero_le _, by unfold maxLen; exact Nat.le_trans (by decide : caT.size ≤ 2) (by omega)⟩
  have Hok2 : Hid (∀ w a c, At w a 1 [u1] → Hok w (hB1 a c)) := fun w a c h => ⟨h, by show 1 ≤ 1000000; omega, by unfold maxLen; exact Nat.le_trans (by decide : caT.size ≤ 2) (by omega)⟩
  have HgA : Hid (∀ a c, (he (hA1 a c)).toArray[1]? = some (.int .i64 1)) := fun _ _ => rfl
  have HgB : Hid (∀ a c, (he (hB1 a c)).toArray[1]? = some (.int .i64 2)) := fun _ _ => rfl
  have HVn : Hid (∀ w a' c', Sha.TabF w → Sha.TabK w → Hok w (hB1 a' c') → Calls Tryz.prog 33 #[.agg (he (hB1 a' c')).toArray, .slice none 0 0] w fun e w' => e = .returned (.int .i64 11) ∧ Keep (fun _ => False) w w') := fun w a' c' h1 h2 h3 => by
    have := verdict_any w h1 h2 (hB1 a' c') h3 none 0 0 [] ⟨rfl, Nat.zero_le _, .inl rfl⟩ (fun x hx => by cases hx) (by omega)
    rwa [vrd_0] at this
  have HV1 : Hid (∀ w a' c' b c a1 c1, Sha.TabF w → Sha.TabK w → Hok w (hB1 a' c') → St.At 38 he w (some ⟨b, 0, none⟩) 1 [hA1 a1 c1] → Calls Tryz.prog 33 #[.agg (he (hB1 a' c')).toArray, .slice (some ⟨b, 0, none⟩) 1 c] w fun e w' => e = .returned (.int .i64 0) ∧ Keep (fun _ => False) w w') := fun w a' c' b c a1 c1 h1 h2 h3 h4 => by
    have := verdict_any w h1 h2 (hB1 a' c') h3 _ 1 c [hA1 a1 c1] h4 (fun x hx => by obtain rfl := List.mem_singleton.1 hx; exact Hok1.out w a1 c1) (by omega)
    rwa [vrd_1] at this
  clear hF hK
  go_enter Tryz.func30, Tryz.ntmps30
  go_wp2_with (first | (refine St.wl_buildV (T := 28) (parts := #[]) rfl rfl (cs := z32) (by kernel_rfl) ?_; simp only [Act.put, List.setIfInBounds_toArray, List.set_cons_zero, List.set_cons_succ]) | ((with_reducible refine at_callW #[.slice none 0 0, .string ⟨#[99, 97]⟩, .int .i64 1, .int .i64 1, .int .i64 1, .agg z32] ?_); refine (next_1 _).mono ?_; rintro e w1 ⟨a1, c1, rfl, n1⟩; have HM : Hid _ := HM.out.calm n1.2.1; clear n1) | ((with_reducible refine at_alloc 30 ?_); refine St.wl_alloc tyH rfl rfl (by (try simp only [World.size_alloc]); rfl) ?_; simp only [Act.put, List.setIfInBounds_toArray, List.set_cons_zero, List.set_cons_succ]) | ((with_reducible refine at_store 30 ?_); first | (refine St.wl_storeN (W := w2) tyH rfl rfl rfl rfl rfl (by (try simp only [World.size_alloc])) (show _ = Value.agg (he (hB1 a2 c2)).toArray from rfl) (he_sz _) rfl (he_one _) ?_; have HM : Hid _ := HM.out.alloc (.cells (he (hB1 a2 c2)).toArray 30) rfl; have g1 := HM.out.cell 0 rfl 1 (HgA.out a1 c1); have g2 := HM.out.cell 3 rfl 1 (HgB.out a2 c2)) | (refine St.wl_storeN (W := w1) tyH rfl rfl rfl rfl rfl (by (try simp only [World.size_alloc])) (show _ = Value.agg (he (hA1 a1 c1)).toArray from rfl) (he_sz _) rfl (he_one _) ?_; have HM : Hid _ := HM.out.alloc (.cells (he (hA1 a1 c1)).toArray 30) rfl)) | ((with_reducible refine at_load 30 ?_); first | (refine St.wl_load tyH (by rfl) rfl rfl (HM.out.range 0 rfl) (he_len (hA1 a1 c1)) ?_; simp only [Act.put, List.setIfInBounds_toArray, List.set_cons_zero, List.set_cons_succ]) | (refine St.wl_load tyH (by rfl) rfl rfl (HM.out.range 3 rfl) (he_len (hB1 a2 c2)) ?_; simp only [Act.put, List.setIfInBounds_toArray, List.set_cons_zero, List.set_cons_succ])) | (refine St.wl_buildG slHe (by decide) (by rfl) rfl (he_len (hA1 a1 c1)) rfl ?_; have HM : Hid _ := HM.out.alloc (.cells (he (hA1 a1 c1)).toArray 30) (by first | rfl | simp only [World.size_alloc]); simp only [Act.put, List.setIfInBounds_toArray, List.set_cons_zero, List.set_cons_succ]) | (go_at_call 31; have hat1 := St.at_one (enc := he) (x := hA1 a1 c1) (n := 38) (HM.out.get 1 rfl); simp only [World.size_alloc] at hat1; refine (next_2 _ (HF.out.keep HM.out.keep (fun h => h)) (HK.out.keep HM.out.keep (fun h => h)) (some ⟨w1.heap.size + 1, 0, none⟩) 1 a1 c1 hat1).mono ?_; clear hat1; rintro e w2 ⟨a2, c2, rfl, n2⟩; have HM : Hid _ := HM.out.add (x := ids (.slice a2 1 c2) [u1]) n2.2.1 n2.1 (fun k hk => ⟨n2.2.2 k hk, n2.1.lt hk⟩); clear n2) | ((with_reducible refine at_callW #[.agg (he (hB1 a2 c2)).toArray, .slice none 0 0] ?_); refine (HVn.out _ a2 c2 (HF.out.keep HM.out.keep (fun h => h)) (HK.out.keep HM.out.keep (fun h => h)) (Hok2.out _ _ _ (iat (HM.out.get 2 rfl)))).mono ?_; rintro e w4 ⟨rfl, k4⟩; have HM : Hid _ := HM.out.calm k4; clear k4) | (go_at_call 33; have hat2 := St.at_one (enc := he) (x := hA1 a1 c1) (n := 38) (HM.out.get 4 rfl); simp only [World.size_alloc] at hat2; refine (HV1.out _ a2 c2 _ 1 a1 c1 (HF.out.keep HM.out.keep (fun h => h)) (HK.out.keep HM.out.keep (fun h => h)) (Hok2.out _ _ _ (iat (HM.out.get 2 rfl))) hat2).mono ?_; clear hat2; rintro e w3 ⟨rfl, k3⟩; have HM : Hid _ := HM.out.calm k3; have g1 := HM.out.cell 0 rfl 1 (HgA.out a1 c1); have g2 := HM.out.cell 3 rfl 1 (HgB.out a2 c2); clear k3))
  go_ret
  exact ⟨rfl, HM.out.keep⟩
end Nx
end Go.Proofs.YtdpkklinpbmkfaaGreatDoor
