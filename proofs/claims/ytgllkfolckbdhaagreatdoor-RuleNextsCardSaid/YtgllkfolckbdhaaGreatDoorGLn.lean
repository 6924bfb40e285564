/-
  Arrays of numbers in tables, as they are read. What the laid tables of sha hold, out of the rows' condition; the opening of an id that comes in by value. The door 'awake' of petrellaw15; headers that came in. petrelref15.Twins: have two unlike ones of some headers one id? The plain law of chains: what stands behind others, seen from what is known.
-/
import Derived.Test.YtgllkfolckbdhaaGreatDoorGMm
import Derived.Test.YtgllkfolckbdhaaGreatDoorRows
import Derived.MakeChecks
import Derived.LaidMore
import Derived.OpenShut
import Derived.Lay
import Derived.ProofKit
import Derived.Test.YtgllkfolckbdhaaGreatDoorGOp
import Derived.Test.YtgllkfolckbdhaaGreatDoorGSh
import Derived.Test.YtgllkfolckbdhaaGreatDoorNx7
import Derived.Test.YtgllkfolckbdhaaGreatDoorRu6
import Derived.Test.YtgllkfolckbdhaaGreatDoorHd9
set_option linter.unusedVariables false
set_option linter.unusedSimpArgs false

namespace Go.Proofs.YtgllkfolckbdhaaGreatDoor
open Go.RowKit
namespace Lad
open Go.ChangeShapes Go.WideShapes Go.ChangeAt
/-- An array of whole numbers, as it is read: its cells. -/
theorem arr_cells {H : Type} {enc : TypeId × Value → H} {P : Program} {w : World} {base : Nat} {spare : TypeId → Bool} {held : Bool} {fuel : Nat} {t e : TypeId} {n : Nat} {k : IntKind} {cs : List Value} {vals : List Int} {q : List MemPlace} (ht : P.underlying t = some (.array n e)) (he : P.underlying e = some (.int k)) (hc : P.cellsOf e = 1)
    (h : DataW.trod enc P w base spare held fuel t cs = some (.agg (vals.map fun x => .lit (.int k x)), q)) (hn : vals.length = n) : ∀ (i : Nat) (x : Int), vals[i]? = some x → cs[i]? = some (Value.int k x) := by
  obtain ⟨xs, m, rfl, hx, hlen, hxn, hel⟩ := DataW.trod_array ht h
  intro i x hi
  have hin : i < n := by rw [← hn]; exact (List.getElem?_eq_some_iff.1 hi).1
  simp only [Prod.mk.injEq, DataW.agg.injEq] at hx
  obtain ⟨hx1, _⟩ := hx
  have h1 := hel i hin
  obtain ⟨y, hy⟩ : ∃ y, xs[i]? = some y := ⟨_, List.getElem?_eq_getElem (by rw [hxn]; exact hin)⟩
  rw [hy] at h1
  obtain ⟨z, e1, e2, _⟩ := DataW.trod_int he h1
  have h2 : (vals.map fun x => (DataW.lit (.int k x) : DataW H))[i]? = (xs.map (·.1))[i]? := by rw [hx1]
  rw [List.getElem?_map, List.getElem?_map, hi, hy, e2] at h2
  simp at h2
  subst h2
  rw [hc, Nat.mul_one] at e1
  have h3 : ((cs.drop i).take 1)[0]? = some (.int k x) := by rw [e1]; rfl
  rw [List.getElem?_take_of_lt (by omega), List.getElem?_drop] at h3
  simpa using h3
theorem tab_of {P : Program} {W : World} {name : String} {g : Nat} {cs : Array Value} (hg : P.globalNamed name = some g) (hv : W.var? P name = some cs) {L : List Value} (h : ∀ (i : Nat) (x : Value), L[i]? = some x → cs.toList[i]? = some x) (hne : L ≠ []) : g < W.heap.size ∧ W.rangeAt g 0 L := by
  have hr : W.rangeAt g 0 L := fun i x hi => by
    rw [Nat.zero_add, World.var?_cell hg hv i, ← Array.getElem?_toList]
    exact h i x hi
  refine ⟨?_, hr⟩
  obtain ⟨x, hx⟩ : ∃ x, L[0]? = some x := by
    cases L with
    | nil => exact absurd rfl hne
    | cons y _ => exact ⟨y, rfl⟩
  have h0 := hr 0 x hx
  unfold World.cell? at h0
  cases hb : W.heap[g]? with
  | none => rw [show (⟨g, 0 + 0, none⟩ : Addr).block = g from rfl, hb] at h0; simp at h0
  | some o => exact lt_of_block hb
end Lad
end Go.Proofs.YtgllkfolckbdhaaGreatDoor


namespace Go.Proofs.YtgllkfolckbdhaaGreatDoor
open Go.RowKit
namespace Lad
open Go.ChangeShapes Go.WideShapes Go.ChangeAt
theorem gFirst : Tryz.prog.globalNamed "petrel/sha.first" = some 0 := by kernel_rfl
theorem gK : Tryz.prog.globalNamed "petrel/sha.k" = some 2 := by kernel_rfl
def FV : List Int := Sha.H0.map fun x => (x.toNat : Int)
def KV : List Int := Sha.K.map fun x => (x.toNat : Int)
theorem sha_of {W : World} (h : laidMetH Tryz.prog [("petrel/sha.first", Rows.laid_petrel_sha_first), ("petrel/sha.k", Rows.laid_petrel_sha_k)] W) : Sha.TabF W ∧ Sha.TabK W := by
  rw [MakeChecks.laidMetH_plain _ _ _ (by kernel_rfl)] at h
  obtain ⟨ps, ⟨g0, t0, cs0, f0, p0, q0, hg0, ht0, hv0, hd0, ⟨g1, t1, cs1, f1, p1, q1, hg1, ht1, hv1, hd1, _, _⟩, _⟩, _, _⟩ := h
  obtain rfl := Option.some.inj (gFirst.symm.trans hg0)
  obtain rfl := Option.some.inj (gK.symm.trans hg1)
  have tF : (Tryz.prog.globals[0]?).map (·.type) = some 120 := by kernel_rfl
  obtain rfl := Option.some.inj (tF.symm.trans ht0)
  have tK : (Tryz.prog.globals[2]?).map (·.type) = some 147 := by kernel_rfl
  obtain rfl := Option.some.inj (tK.symm.trans ht1)
  have hf := arr_cells (vals := FV) (k := .u32) Tryz.underlying120 Tryz.underlying119 (by kernel_rfl) hd0 rfl
  have hk := arr_cells (vals := KV) (k := .u32) Tryz.underlying147 Tryz.underlying119 (by kernel_rfl) hd1 rfl
  have hF := tab_of gFirst hv0 (L := Sha.H0.map Sha.uv) (fun i x hi => by
    rw [List.getElem?_map] at hi
    cases hx : Sha.H0[i]? with
    | none => rw [hx] at hi; cases hi
    | some y =>
      rw [hx] at hi
      cases hi
      exact hf i _ (by unfold FV; rw [List.getElem?_map, hx]; rfl)) (by decide)
  have hK := tab_of gK hv1 (L := Sha.K.map Sha.uv) (fun i x hi => by
    rw [List.getElem?_map] at hi
    cases hx : Sha.K[i]? with
    | none => rw [hx] at hi; cases hi
    | some y =>
      rw [hx] at hi
      cases hi
      exact hk i _ (by unfold KV; rw [List.getElem?_map, hx]; rfl)) (by decide)
  refine ⟨hF, hK.1, fun i hi => ?_⟩
  have h := hK.2 i (Sha.uv (Sha.K.getD i 0)) (by
    have e : i < Sha.K.length := hi
    rw [List.getElem?_map, List.getD_eq_getElem?_getD, List.getElem?_eq_getElem e]; rfl)
  rwa [Nat.zero_add] at h
end Lad
end Go.Proofs.YtgllkfolckbdhaaGreatDoor


namespace Go.Proofs.YtgllkfolckbdhaaGreatDoor
open Go.RowKit
namespace Nx
open Oct Ids Gn Hd Ru
open Mem (M It blk ids rows)
abbrev caT : ByteArray := ⟨#[99, 97]⟩
/-- A header that came in, as a record. -/
def toH (x : HH) : Hh := ⟨x.1.a, x.1.len, x.1.cap, x.1.els, x.2.1, x.2.2.1, x.2.2.2.1, x.2.2.2.2.1, x.2.2.2.2.2.1, if x.2.2.2.2.2.2.1.length = 32 then x.2.2.2.2.2.2.1 else Z32, by split; assumption; rfl⟩
theorem he_toH (x : HH) (h : x.2.2.2.2.2.2.1.length = 32) : he (toH x) = layH x := by
  unfold he toH
  simp only [if_pos h]
  rfl
theorem in_toH {w : World} {x : HH} (h : factH w x) : Hin w (toH x) := ⟨h.2.1, h.2.2.1⟩
theorem in_row {w : World} {s : Opn.Sl HH} (h : Opn.SlAt 38 layH factH w s) : St.At 38 he w s.a s.len (s.els.map toH) ∧ ∀ x ∈ s.els.map toH, Hin w x := by
  obtain ⟨h1, h2, h3, h4⟩ := h
  have hf : ∀ x ∈ s.els, factH w x := fun x hx => by
    rcases h4 with h4 | ⟨b, off, _, _, hr⟩
    · rw [h4] at h1
      rw [List.eq_nil_of_length_eq_zero h1] at hx
      cases hx
    · obtain ⟨i, hi⟩ := List.getElem?_of_mem hx
      exact (hr i x hi).2
  refine ⟨⟨by rw [List.length_map]; exact h1, Nat.le_trans h2 h3, h4.imp id ?_⟩, fun x hx => ?_⟩
  · rintro ⟨b, off, ha, hb, hr⟩
    refine ⟨b, off, ha, hb, fun i x hi => ?_⟩
    rw [List.getElem?_map] at hi
    cases hy : s.els[i]? with
    | none => rw [hy] at hi; cases hi
    | some y =>
      rw [hy] at hi
      cases hi
      rw [he_toH y (hr i y hy).2.1]
      exact (hr i y hy).1
  · obtain ⟨y, hy, rfl⟩ := List.mem_map.1 hx
    exact in_toH (hf y hy)
theorem ok_of {w : World} {x : Hh} (h : Hin w x) (hn : x.n ≤ 1000000) : Hok w x := ⟨h.1, hn, h.2⟩
/-- What two calls of 'Next' come to, both from one row of heads. -/
theorem next_two (K : List Hh) (T : ByteArray) (A Q Z : Int) (m : List UInt8) :
    (∃ v, ∀ w e w', NextPost w K T A Q Z m e w' → e = .returned (.tuple #[.agg hz0, .int .i64 v]) ∧ Keep (fun _ => False) w w') ∨
    (∃ l G, ck l.length l G T A Q Z = 0 ∧ l = selL K ∧ G = selG K ∧ bad K = none ∧ ∀ w e w', NextPost w K T A Q Z m e w' → ∃ a c, e = .returned (.tuple #[.agg (hd (.slice a l.length c) G T A Q Z m).toArray, .int .i64 0]) ∧ New w w' (.slice a l.length c) l) := by
  cases hb : bad K with
  | some v =>
    refine .inl ⟨v, fun w e w' h => ?_⟩
    rcases h with ⟨v', h1, h2, h3⟩ | ⟨h1, _⟩
    · rw [hb] at h1; cases h1; exact ⟨h2, h3⟩
    · rw [hb] at h1; cases h1
  | none =>
    by_cases hc : ck (selL K).length (selL K) (selG K) T A Q Z = 0
    · refine .inr ⟨selL K, selG K, hc, rfl, rfl, rfl, fun w e w' h => ?_⟩
      rcases h with ⟨v', h1, _⟩ | ⟨_, ⟨h1, _⟩ | ⟨_, h2⟩⟩
      · rw [hb] at h1; cases h1
      · exact absurd hc h1
      · exact h2
    · refine .inl ⟨ck (selL K).length (selL K) (selG K) T A Q Z, fun w e w' h => ?_⟩
      rcases h with ⟨v', h1, _⟩ | ⟨_, ⟨_, h2⟩ | ⟨h1, _⟩⟩
      · rw [hb] at h1; cases h1
      · exact h2
      · exact absurd h1 hc
theorem sel_nil : selL [] = [] ∧ selG [] = 1 := by
  constructor
  · simp [selL, sel, srtD, IdL.setL]
  · simp [selG, sel, srtD, most]
theorem sel_one (x : Hh) : selL [x] = [hiv x] ∧ selG [x] = max 0 (min x.G 1073741824) + 1 := by
  constructor
  · simp [selL, sel, srtD, IdL.setL, IdL.withL, hkey]
  · simp [selG, sel, srtD, most, hkey]
theorem ck_a : ck 0 [] 1 caT 1 1 1 = 0 := by decide +kernel
theorem isL_one (u : List UInt8) : isL [u] = true := by
  unfold isL
  simp [IdL.setL, IdL.withL]
theorem ck_b (u : List UInt8) : ck 1 [u] 2 caT 1 2 1 = 0 := by
  unfold ck kl
  rw [isL_one]
  decide +kernel
def hA1 (a : Option Addr) (c : Nat) : Hh := ⟨a, 0, c, [], 1, caT, 1, 1, 1, Z32, rfl⟩
def u1 : List UInt8 := Hd.iv 0 [] 1 caT 1 1 1 Z32
def hB1 (a : Option Addr) (c : Nat) : Hh := ⟨a, 1, c, [u1], 2, caT, 1, 2, 1, Z32, rfl⟩
theorem hiv_A1 (a : Option Addr) (c : Nat) : hiv (hA1 a c) = u1 := rfl
theorem hck_A1 (a : Option Addr) (c : Nat) : hck (hA1 a c) = 0 := ck_a
theorem hck_B1 (a : Option Addr) (c : Nat) : hck (hB1 a c) = 0 := ck_b u1
theorem look_A1 (a : Option Addr) (c : Nat) : Ru.look [hA1 a c] u1 = some (hA1 a c) := by
  unfold Ru.look
  have : hits u1 (hA1 a c) = true := by unfold hits; rw [hck_A1, hiv_A1]; simp
  simp [this]
theorem vrd_1 (a a' : Option Addr) (c c' : Nat) : vrd (hB1 a' c') [hA1 a c] = 0 := by
  have hu : unk [hA1 a c] [u1] = [] := by unfold unk; simp [look_A1]
  have hk : kn [hA1 a c] [u1] = [hA1 a c] := by unfold kn; simp [look_A1]
  unfold vrd
  rw [if_pos (hck_B1 _ _), show (hB1 a' c').l = [u1] from rfl, hu, hk]
  rfl
theorem vrd_0 (a' : Option Addr) (c' : Nat) : vrd (hB1 a' c') [] = 11 := by
  have hu : unk [] [u1] = [u1] := by unfold unk; simp [Ru.look]
  unfold vrd
  rw [if_pos (hck_B1 _ _), show (hB1 a' c').l = [u1] from rfl, hu]
  rfl
theorem next_1 (w : World) : Calls Tryz.prog 8 #[.slice none 0 0, .string caT, .int .i64 1, .int .i64 1, .int .i64 1, .agg z32] w fun e w' => ∃ a c, e = .returned (.tuple #[.agg (he (hA1 a c)).toArray, .int .i64 0]) ∧ New w w' (.slice a 0 c) [] := by
  rw [show Value.agg z32 = idv Z32 from rfl]
  refine (next_nil w none 0 caT 1 1 1 Z32 rfl (by unfold maxLen; exact Nat.le_trans (by decide : caT.size ≤ 2) (by omega))).mono fun e w' h => ?_
  rcases h with ⟨v', h1, _⟩ | ⟨_, ⟨h1, _⟩ | ⟨_, h2⟩⟩
  · cases h1
  · rw [sel_nil.1, sel_nil.2] at h1
    exact absurd ck_a h1
  · rw [sel_nil.1, sel_nil.2] at h2
    exact h2
theorem next_2 (w : World) (hF : Sha.TabF w) (hKt : Sha.TabK w) (a : Option Addr) (c : Nat) (a1 : Option Addr) (c1 : Nat) (hA : St.At 38 he w a 1 [hA1 a1 c1]) :
    Calls Tryz.prog 8 #[.slice a 1 c, .string caT, .int .i64 1, .int .i64 2, .int .i64 1, .agg z32] w fun e w' => ∃ a2 c2, e = .returned (.tuple #[.agg (he (hB1 a2 c2)).toArray, .int .i64 0]) ∧ New w w' (.slice a2 1 c2) [u1] := by
  have hsel := sel_one (hA1 a1 c1)
  rw [hiv_A1] at hsel
  have hg : selG [hA1 a1 c1] = 2 := hsel.2
  rw [show Value.agg z32 = idv Z32 from rfl]
  refine (next_any w hF hKt a 1 c [hA1 a1 c1] hA (fun x hx => by obtain rfl := List.mem_singleton.1 hx; exact ⟨⟨rfl, by simp [hA1], Nat.zero_le _, .inl rfl⟩, Nat.zero_le _, by unfold maxLen; exact Nat.le_trans (by decide : caT.size ≤ 2) (by omega)⟩) (by omega) caT 1 2 1 Z32 rfl (by unfold maxLen; exact Nat.le_trans (by decide : caT.size ≤ 2) (by omega))).mono fun e w' h => ?_
  rcases h with ⟨v', h1, _⟩ | ⟨_, ⟨h1, _⟩ | ⟨_, h2⟩⟩
  · have : bad [hA1 a1 c1] = none := bad_none (fun j y hj => by
      have hj0 : j = 0 := by have h1 := (List.getElem?_eq_some_iff.1 hj).1; have h2 : [hA1 a1 c1].length = 1 := rfl; omega
      subst hj0
      cases hj
      exact hck_A1 _ _)
    rw [this] at h1
    cases h1
  · rw [hsel.1, hg] at h1
    exact absurd (ck_b u1) h1
  · rw [hsel.1, hg] at h2
    exact h2
set_option maxRecDepth 100000 in
set_option maxHeartbeats 4000000 in
theorem awake15 (w : World) (hF : Sha.TabF w) (hK : Sha.TabK w) : Calls Tryz.prog 7 #[] w fun e w' => e = .returned (.bool true) ∧ Keep (fun _ => False) w w' := by
  have HF : Hid (Sha.TabF w) := hF
  have HK : Hid (Sha.TabK w) := hK
  have HM : Hid (M (fun _ => False) w w []) := M.start _ w
  have Hok1 : Hid (∀ w a c, Hok w (hA1 a c)) := fun w a c => ⟨⟨rfl, by simp [hA1], Nat.zero_le _, .inl rfl⟩, Nat.zero_le _, by unfold maxLen; exact Nat.le_trans (by decide : caT.size ≤ 2) (by omega)⟩
  have Hok2 : Hid (∀ w a c, At w a 1 [u1] → Hok w (hB1 a c)) := fun w a c h => ⟨h, by show 1 ≤ 1000000; omega, by unfold maxLen; exact Nat.le_trans (by decide : caT.size ≤ 2) (by omega)⟩
  have HgA : Hid (∀ a c, (he (hA1 a c)).toArray[1]? = some (.int .i64 1)) := fun _ _ => rfl
  have HgB : Hid (∀ a c, (he (hB1 a c)).toArray[1]? = some (.int .i64 2)) := fun _ _ => rfl
  have HVn : Hid (∀ w a' c', Sha.TabF w → Sha.TabK w → Hok w (hB1 a' c') → Calls Tryz.prog 26 #[.agg (he (hB1 a' c')).toArray, .slice none 0 0] w fun e w' => e = .returned (.int .i64 11) ∧ Keep (fun _ => False) w w') := fun w a' c' h1 h2 h3 => by
    have := verdict_any w h1 h2 (hB1 a' c') h3 none 0 0 [] ⟨rfl, Nat.zero_le _, .inl rfl⟩ (fun x hx => by cases hx) (by omega)
    rwa [vrd_0] at this
  have HV1 : Hid (∀ w a' c' b c a1 c1, Sha.TabF w → Sha.TabK w → Hok w (hB1 a' c') → St.At 38 he w (some ⟨b, 0, none⟩) 1 [hA1 a1 c1] → Calls Tryz.prog 26 #[.agg (he (hB1 a' c')).toArray, .slice (some ⟨b, 0, none⟩) 1 c] w fun e w' => e = .returned (.int .i64 0) ∧ Keep (fun _ => False) w w') := fun w a' c' b c a1 c1 h1 h2 h3 h4 => by
    have := verdict_any w h1 h2 (hB1 a' c') h3 _ 1 c [hA1 a1 c1] h4 (fun x hx => by obtain rfl := List.mem_singleton.1 hx; exact Hok1.out w a1 c1) (by omega)
    rwa [vrd_1] at this
  clear hF hK
  go_enter Tryz.func7, Tryz.ntmps7
  go_wp2_with (first | (refine St.wl_buildV (T := 24) (parts := #[]) rfl rfl (cs := z32) (by kernel_rfl) ?_; simp only [Act.put, List.setIfInBounds_toArray, List.set_cons_zero, List.set_cons_succ]) | ((with_reducible refine at_callW #[.slice none 0 0, .string ⟨#[99, 97]⟩, .int .i64 1, .int .i64 1, .int .i64 1, .agg z32] ?_); refine (next_1 _).mono ?_; rintro e w1 ⟨a1, c1, rfl, n1⟩; have HM : Hid _ := HM.out.calm n1.2.1; clear n1) | ((with_reducible refine at_alloc 28 ?_); refine St.wl_alloc tyH rfl rfl (by (try simp only [World.size_alloc]); rfl) ?_; simp only [Act.put, List.setIfInBounds_toArray, List.set_cons_zero, List.set_cons_succ]) | ((with_reducible refine at_store 28 ?_); first | (refine St.wl_storeN (W := w2) tyH rfl rfl rfl rfl rfl (by (try simp only [World.size_alloc])) (show _ = Value.agg (he (hB1 a2 c2)).toArray from rfl) (he_sz _) rfl (he_one _) ?_; have HM : Hid _ := HM.out.alloc (.cells (he (hB1 a2 c2)).toArray 28) rfl; have g1 := HM.out.cell 0 rfl 1 (HgA.out a1 c1); have g2 := HM.out.cell 3 rfl 1 (HgB.out a2 c2)) | (refine St.wl_storeN (W := w1) tyH rfl rfl rfl rfl rfl (by (try simp only [World.size_alloc])) (show _ = Value.agg (he (hA1 a1 c1)).toArray from rfl) (he_sz _) rfl (he_one _) ?_; have HM : Hid _ := HM.out.alloc (.cells (he (hA1 a1 c1)).toArray 28) rfl)) | ((with_reducible refine at_load 28 ?_); first | (refine St.wl_load tyH (by rfl) rfl rfl (HM.out.range 0 rfl) (he_len (hA1 a1 c1)) ?_; simp only [Act.put, List.setIfInBounds_toArray, List.set_cons_zero, List.set_cons_succ]) | (refine St.wl_load tyH (by rfl) rfl rfl (HM.out.range 3 rfl) (he_len (hB1 a2 c2)) ?_; simp only [Act.put, List.setIfInBounds_toArray, List.set_cons_zero, List.set_cons_succ])) | (refine St.wl_buildG slHe (by decide) (by rfl) rfl (he_len (hA1 a1 c1)) rfl ?_; have HM : Hid _ := HM.out.alloc (.cells (he (hA1 a1 c1)).toArray 28) (by first | rfl | simp only [World.size_alloc]); simp only [Act.put, List.setIfInBounds_toArray, List.set_cons_zero, List.set_cons_succ]) | (go_at_call 8; have hat1 := St.at_one (enc := he) (x := hA1 a1 c1) (n := 38) (HM.out.get 1 rfl); simp only [World.size_alloc] at hat1; refine (next_2 _ (HF.out.keep HM.out.keep (fun h => h)) (HK.out.keep HM.out.keep (fun h => h)) (some ⟨w1.heap.size + 1, 0, none⟩) 1 a1 c1 hat1).mono ?_; clear hat1; rintro e w2 ⟨a2, c2, rfl, n2⟩; have HM : Hid _ := HM.out.add (x := ids (.slice a2 1 c2) [u1]) n2.2.1 n2.1 (fun k hk => ⟨n2.2.2 k hk, n2.1.lt hk⟩); clear n2) | ((with_reducible refine at_callW #[.agg (he (hB1 a2 c2)).toArray, .slice none 0 0] ?_); refine (HVn.out _ a2 c2 (HF.out.keep HM.out.keep (fun h => h)) (HK.out.keep HM.out.keep (fun h => h)) (Hok2.out _ _ _ (iat (HM.out.get 2 rfl)))).mono ?_; rintro e w4 ⟨rfl, k4⟩; have HM : Hid _ := HM.out.calm k4; clear k4) | (go_at_call 26; have hat2 := St.at_one (enc := he) (x := hA1 a1 c1) (n := 38) (HM.out.get 4 rfl); simp only [World.size_alloc] at hat2; refine (HV1.out _ a2 c2 _ 1 a1 c1 (HF.out.keep HM.out.keep (fun h => h)) (HK.out.keep HM.out.keep (fun h => h)) (Hok2.out _ _ _ (iat (HM.out.get 2 rfl))) hat2).mono ?_; clear hat2; rintro e w3 ⟨rfl, k3⟩; have HM : Hid _ := HM.out.calm k3; have g1 := HM.out.cell 0 rfl 1 (HgA.out a1 c1); have g2 := HM.out.cell 3 rfl 1 (HgB.out a2 c2); clear k3))
  go_ret
  exact ⟨rfl, HM.out.keep⟩
end Nx
end Go.Proofs.YtgllkfolckbdhaaGreatDoor


namespace Go.Proofs.YtgllkfolckbdhaaGreatDoor
open Go.RowKit
namespace Nx
open Oct Ids Gn Hd Ru
open Mem (M It blk ids rows)
def sm (x y : Hh) : Bool := smh x.l x.G x.T x.A x.Q x.Z x.m y.l y.G y.T y.A y.Q y.Z y.m
def twp (x y : Hh) : Bool := hck x == 0 && (hck y == 0 && (hiv x == hiv y && !(sm x y)))
/-- Two unlike ones that have one id. -/
def Tw (K : List Hh) : Prop := ∃ (i k : Nat) (x y : Hh), k < i ∧ K[i]? = some x ∧ K[k]? = some y ∧ twp x y = true
structure TwPost (w : World) (K : List Hh) (e : Ending) (w' : World) : Prop where
  ex : ∃ t, e = .returned (.bool t) ∧ Keep (fun _ => False) w w' ∧ (t = false → ¬ Tw K)
theorem TwPost.yes {w w' : World} {K : List Hh} (k : Keep (fun _ => False) w w') : TwPost w K (.returned (.bool true)) w' := ⟨⟨true, rfl, k, fun h => by cases h⟩⟩
theorem TwPost.no {w w' : World} {K : List Hh} (k : Keep (fun _ => False) w w') (h : ¬ Tw K) : TwPost w K (.returned (.bool false)) w' := ⟨⟨false, rfl, k, fun _ => h⟩⟩
set_option maxRecDepth 100000 in
set_option maxHeartbeats 8000000 in
theorem twins_any (w : World) (a : Option Addr) (n c : Nat) (K : List Hh) (hA : St.At 38 he w a n K) (hk : ∀ x ∈ K, Hok w x) (hn : n ≤ 1000000) :
    Calls Tryz.prog 18 #[.slice a n c] w (TwPost w K) := by
  have HA : Hid (St.At 38 he w a n K) := hA
  have HKo : Hid (∀ x ∈ K, Hok w x) := hk
  have HI0 : Hid (∀ x ∈ K, ∀ w', Keep (fun _ => False) w w' → Calls Tryz.prog 31 #[.agg (he x).toArray] w' fun e w'' => e = .returned (.tuple #[idv (hiv x), .int .i64 (hck x)]) ∧ Keep (fun _ => False) w' w'') := fun x hx w' k => hrident w' x ((hk x hx).calm k)
  have HM : Hid (M (fun _ => False) w w []) := M.start _ w
  clear hA hk
  go_enter Tryz.func18, Tryz.ntmps18
  go_wp2
  go_loopw [3] (fun i wr => ∃ (k : Nat), k ≤ n ∧ i = .int .i64 k ∧ (∀ (i' j : Nat) (x y : Hh), i' < k → j < i' → K[i']? = some x → K[j]? = some y → twp x y = false) ∧ M (fun _ => False) w wr []) (fun i _ => n - (intOf i).toNat)
  case atStart => exact ⟨0, Nat.zero_le _, rfl, fun i' j x y hi => absurd hi (Nat.not_lt_zero _), HM.out⟩
  case round =>
    clear HM
    obtain ⟨i, hin, rfl, hno, hM⟩ := hrel
    have HM : Hid _ := hM
    have HNo : Hid (∀ (i' j : Nat) (x y : Hh), i' < i → j < i' → K[i']? = some x → K[j]? = some y → twp x y = false) := hno
    clear hM hno
    by_cases hlt : i < n
    · obtain ⟨x, hx⟩ : ∃ x, K[i]? = some x := ⟨_, List.getElem?_eq_getElem (by rw [HA.out.len]; exact hlt)⟩
      obtain ⟨b1, o1, rfl, hb1, hr1⟩ : ∃ b off, a = some ⟨b, off, none⟩ ∧ b < w.heap.size ∧ ∀ i x, K[i]? = some x → w.rangeAt b (off + i * 38) (he x) := by rcases HA.out.lay with e | e; omega; exact e
      have HR : Hid (∀ i x, K[i]? = some x → w.rangeAt b1 (o1 + i * 38) (he x)) := hr1
      have HB1 : Hid (b1 < w.heap.size) := hb1
      have R1 : Hid (wr.rangeAt b1 (o1 + i * 38) (he x)) := HM.out.keep.range hb1 (fun h => h) (hr1 i x hx)
      have Hx : Hid (K[i]? = some x) := hx
      have HIx : Hid (∀ w', Keep (fun _ => False) w w' → Calls Tryz.prog 31 #[.agg (he x).toArray] w' fun e w'' => e = .returned (.tuple #[idv (hiv x), .int .i64 (hck x)]) ∧ Keep (fun _ => False) w' w'') := HI0.out x (List.mem_of_getElem? hx)
      have Hul : Hid ((hiv x).length = 32) := hiv_len x
      obtain ⟨u, hu⟩ : ∃ u, hiv x = u := ⟨_, rfl⟩
      obtain ⟨t, ht⟩ : ∃ t, hck x = t := ⟨_, rfl⟩
      have Hu : Hid (hiv x = u) := hu
      have Ht : Hid (hck x = t) := ht
      rw [hu, ht] at HIx
      rw [hu] at Hul
      have Hum : Hid ((u.map bv).toArray.size = 32) := by show _ = _; rw [List.size_toArray, List.length_map]; exact Hul.out
      clear hr1 hx hb1 hu ht
      go_wp2_with (first | ((with_reducible refine at_load 28 ?_); refine St.wl_load tyH (by rfl) rfl rfl R1.out (he_len x) ?_; simp only [Act.put, List.setIfInBounds_toArray, List.set_cons_zero, List.set_cons_succ]) | (go_at_call 31; refine (HIx.out _ HM.out.keep).mono ?_; rintro e w2 ⟨rfl, k2⟩; have HM : Hid _ := HM.out.calm k2; clear k2) | (refine St.wl_alloc tyI rfl rfl (by (try simp only [World.size_alloc]); rfl) ?_; simp only [Act.put, List.setIfInBounds_toArray, List.set_cons_zero, List.set_cons_succ]) | (refine St.wl_storeN (W := w2) tyI rfl rfl rfl rfl rfl (by (try simp only [World.size_alloc])) (show _ = Value.agg (u.map bv).toArray from rfl) Hum.out rfl (one_bv _) ?_; have HM : Hid _ := HM.out.alloc (.cells (u.map bv).toArray 24) rfl))
      obtain ⟨bu, hbu⟩ : ∃ b, w2.heap.size = b := ⟨_, rfl⟩
      rw [hbu] at HM
      rw [hbu]
      clear hbu
      go_loopw [6] (fun s wr => ∃ (k : Nat), k ≤ i ∧ s = .int .i64 k ∧ (∀ (j : Nat) (y : Hh), j < k → K[j]? = some y → twp x y = false) ∧ M (fun _ => False) w wr [blk bu (.cells (u.map bv).toArray 24)]) (fun s _ => i - (intOf s).toNat)
      case atStart => exact ⟨0, Nat.zero_le _, rfl, fun j y hj => absurd hj (Nat.not_lt_zero _), HM.out⟩
      case round =>
        clear HM R1
        obtain ⟨k, hki, rfl, hno2, hM⟩ := hrel
        have HM : Hid _ := hM
        have HN2 : Hid (∀ (j : Nat) (y : Hh), j < k → K[j]? = some y → twp x y = false) := hno2
        clear hM hno2
        by_cases hlt2 : k < i
        · have hkn : k < n := by omega
          obtain ⟨y, hy⟩ : ∃ x, K[k]? = some x := ⟨_, List.getElem?_eq_getElem (by rw [HA.out.len]; exact hkn)⟩
          have Hy : Hid (K[k]? = some y) := hy
          have R2 : Hid (wr.rangeAt b1 (o1 + k * 38) (he y)) := HM.out.keep.range HB1.out (fun h => h) (HR.out k y hy)
          have HIy : Hid (∀ w', Keep (fun _ => False) w w' → Calls Tryz.prog 31 #[.agg (he y).toArray] w' fun e w'' => e = .returned (.tuple #[idv (hiv y), .int .i64 (hck y)]) ∧ Keep (fun _ => False) w' w'') := HI0.out y (List.mem_of_getElem? hy)
          have Hvl : Hid ((hiv y).length = 32) := hiv_len y
          obtain ⟨v, hv⟩ : ∃ u, hiv y = u := ⟨_, rfl⟩
          obtain ⟨t2, ht2⟩ : ∃ t, hck y = t := ⟨_, rfl⟩
          have Hv : Hid (hiv y = v) := hv
          have Ht2 : Hid (hck y = t2) := ht2
          rw [hv, ht2] at HIy
          rw [hv] at Hvl
          have Hvm : Hid ((v.map bv).toArray.size = 32) := by show _ = _; rw [List.size_toArray, List.length_map]; exact Hvl.out
          obtain ⟨b, hb⟩ : ∃ b, (u == v) = b := ⟨_, rfl⟩
          obtain ⟨s, hs⟩ : ∃ b, sm x y = b := ⟨_, rfl⟩
          have hcmp : ∀ w, Sem.run Tryz.prog (binOp .eql 24 (idv u) (idv v)) w = .ok (.bool b) w := fun w => by rw [eql_id w u v Hul.out Hvl.out, hb]
          have HTP : Hid (twp x y = (t == 0 && (t2 == 0 && (b && !s)))) := by show _ = _; unfold twp; rw [Ht.out, Ht2.out, Hu.out, Hv.out, hb, hs]
          have HSm : Hid (∀ w', Keep (fun _ => False) w w' → Calls Tryz.prog 10 #[.agg (he x).toArray, .agg (he y).toArray] w' fun e w'' => e = .returned (.bool s) ∧ Keep (fun _ => False) w' w'') := fun w' k' => rsame_h w' x.a y.a x.n x.c y.n y.c x.l y.l x.G y.G x.T y.T x.A y.A x.Q y.Q x.Z y.Z x.m y.m x.hm y.hm ((HKo.out x (List.mem_of_getElem? Hx.out)).1.calm k') ((HKo.out y (List.mem_of_getElem? hy)).1.calm k') s hs
          have HNX : Hid (twp x y = false → ∀ (j : Nat) (z : Hh), j < k + 1 → K[j]? = some z → twp x z = false) := fun h j z hj hz => by
            rcases Nat.lt_or_ge j k with h1 | h1
            · exact HN2.out j z h1 hz
            · obtain rfl : j = k := by omega
              rw [hy] at hz
              cases hz
              exact h
          clear hy hv ht2 hb hs
          go_wp2_with (first | ((with_reducible refine at_load 28 ?_); refine St.wl_load tyH (by rfl) rfl rfl R2.out (he_len y) ?_; simp only [Act.put, List.setIfInBounds_toArray, List.set_cons_zero, List.set_cons_succ]) | (go_at_call 31; refine (HIy.out _ HM.out.keep).mono ?_; rintro e w3 ⟨rfl, k3⟩; have HM : Hid _ := HM.out.calm k3; clear k3) | (refine St.wl_alloc tyI rfl rfl (by (try simp only [World.size_alloc]); rfl) ?_; simp only [Act.put, List.setIfInBounds_toArray, List.set_cons_zero, List.set_cons_succ]) | (refine St.wl_storeN (W := w3) tyI rfl rfl rfl rfl rfl (by (try simp only [World.size_alloc])) (show _ = Value.agg (v.map bv).toArray from rfl) Hvm.out rfl (one_bv _) ?_; have HM : Hid _ := HM.out.alloc (.cells (v.map bv).toArray 24) rfl))
          have HM : Hid _ := HM.out.drew
          have R1 : Hid (World.rangeAt _ b1 (o1 + i * 38) (he x)) := HM.out.keep.range HB1.out (fun h => h) (HR.out i x Hx.out)
          have R2 : Hid (World.rangeAt _ b1 (o1 + k * 38) (he y)) := HM.out.keep.range HB1.out (fun h => h) (HR.out k y Hy.out)
          by_cases h0 : t = 0
          case neg =>
            have h1 : (t == 0) = false := by simpa using h0
            have HF0 : Hid (twp x y = false) := by show _ = _; rw [HTP.out, h1]; rfl
            clear h0 hcmp
            refine Txt.wp_region_text (fun _ => True) [0, 0, 0, 0, 0, 0, 0, 1, 1, 0, 0, 0, 0, 0, 0, 1, 0, 0, 0, 1, 4, 0, 0] (by kernel_rfl) (by kernel_rfl) trivial ?_
            (repeat (first | (refine Txt.tl_pure (v := ?_) (by rfl) ?_ ?_; rotate_left; (focus (intro _; go_simp; try with_reducible rfl)); simp only [Act.put, List.setIfInBounds_toArray, List.set_cons_zero, List.set_cons_succ]) | (refine Txt.tl_skip (by rfl) trivial ?_; simp only [Act.put, List.setIfInBounds_toArray, List.set_cons_zero, List.set_cons_succ]) | (refine Txt.tl_rowN (n := 32) (ty := 24) (by rfl) (by rfl) (by rfl) (HM.out.range 0 rfl) (by kernel_rfl) (by rw [List.length_map]; exact Hul.out) ?_; simp only [Act.put, List.setIfInBounds_toArray, List.set_cons_zero, List.set_cons_succ]) | (refine Txt.tl_rowN (n := 32) (ty := 24) (by rfl) (by rfl) (by rfl) (HM.out.range 1 rfl) (by kernel_rfl) (by rw [List.length_map]; exact Hvl.out) ?_; simp only [Act.put, List.setIfInBounds_toArray, List.set_cons_zero, List.set_cons_succ]) | (refine Txt.tl_rowN (n := 38) (ty := 28) (by rfl) (by rfl) (by rfl) R1.out (by kernel_rfl) (he_len x) ?_; simp only [Act.put, List.setIfInBounds_toArray, List.set_cons_zero, List.set_cons_succ]) | (refine Txt.tl_rowN (n := 38) (ty := 28) (by rfl) (by rfl) (by rfl) R2.out (by kernel_rfl) (he_len y) ?_; simp only [Act.put, List.setIfInBounds_toArray, List.set_cons_zero, List.set_cons_succ])))
            refine Txt.tl_nil ?_
            go_wp2
            go_roundw
            case rel => exact ⟨k + 1, by omega, rfl, HNX.out HF0.out, HM.out.take 1⟩
            case measure => simp [intOf]; omega
          subst h0
          by_cases h2 : t2 = 0
          case neg =>
            have h1 : (t2 == 0) = false := by simpa using h2
            have HF0 : Hid (twp x y = false) := by show _ = _; rw [HTP.out, h1]; rfl
            clear h2 hcmp
            refine Txt.wp_region_text (fun _ => True) [0, 0, 0, 0, 0, 0, 0, 1, 1, 0, 0, 0, 0, 0, 0, 1, 0, 0, 0, 1, 4, 0, 0] (by kernel_rfl) (by kernel_rfl) trivial ?_
            (repeat (first | (refine Txt.tl_pure (v := ?_) (by rfl) ?_ ?_; rotate_left; (focus (intro _; go_simp; try with_reducible rfl)); simp only [Act.put, List.setIfInBounds_toArray, List.set_cons_zero, List.set_cons_succ]) | (refine Txt.tl_skip (by rfl) trivial ?_; simp only [Act.put, List.setIfInBounds_toArray, List.set_cons_zero, List.set_cons_succ]) | (refine Txt.tl_rowN (n := 32) (ty := 24) (by rfl) (by rfl) (by rfl) (HM.out.range 0 rfl) (by kernel_rfl) (by rw [List.length_map]; exact Hul.out) ?_; simp only [Act.put, List.setIfInBounds_toArray, List.set_cons_zero, List.set_cons_succ]) | (refine Txt.tl_rowN (n := 32) (ty := 24) (by rfl) (by rfl) (by rfl) (HM.out.range 1 rfl) (by kernel_rfl) (by rw [List.length_map]; exact Hvl.out) ?_; simp only [Act.put, List.setIfInBounds_toArray, List.set_cons_zero, List.set_cons_succ]) | (refine Txt.tl_rowN (n := 38) (ty := 28) (by rfl) (by rfl) (by rfl) R1.out (by kernel_rfl) (he_len x) ?_; simp only [Act.put, List.setIfInBounds_toArray, List.set_cons_zero, List.set_cons_succ]) | (refine Txt.tl_rowN (n := 38) (ty := 28) (by rfl) (by rfl) (by rfl) R2.out (by kernel_rfl) (he_len y) ?_; simp only [Act.put, List.setIfInBounds_toArray, List.set_cons_zero, List.set_cons_succ])))
            refine Txt.tl_nil ?_
            go_wp2
            go_roundw
            case rel => exact ⟨k + 1, by omega, rfl, HNX.out HF0.out, HM.out.take 1⟩
            case measure => simp [intOf]; omega
          subst h2
          cases b with
          | false =>
            have HF0 : Hid (twp x y = false) := by show _ = _; rw [HTP.out]; rfl
            refine Txt.wp_region_text (fun _ => True) [0, 0, 0, 0, 0, 0, 0, 1, 1, 0, 0, 0, 0, 0, 0, 1, 0, 0, 0, 1, 4, 0, 0] (by kernel_rfl) (by kernel_rfl) trivial ?_
            (repeat (first | (refine Txt.tl_pure (v := ?_) (by rfl) ?_ ?_; rotate_left; (focus (intro _; go_simp; try with_reducible rfl)); simp only [Act.put, List.setIfInBounds_toArray, List.set_cons_zero, List.set_cons_succ]) | (refine Txt.tl_skip (by rfl) trivial ?_; simp only [Act.put, List.setIfInBounds_toArray, List.set_cons_zero, List.set_cons_succ]) | (refine Txt.tl_rowN (n := 32) (ty := 24) (by rfl) (by rfl) (by rfl) (HM.out.range 0 rfl) (by kernel_rfl) (by rw [List.length_map]; exact Hul.out) ?_; simp only [Act.put, List.setIfInBounds_toArray, List.set_cons_zero, List.set_cons_succ]) | (refine Txt.tl_rowN (n := 32) (ty := 24) (by rfl) (by rfl) (by rfl) (HM.out.range 1 rfl) (by kernel_rfl) (by rw [List.length_map]; exact Hvl.out) ?_; simp only [Act.put, List.setIfInBounds_toArray, List.set_cons_zero, List.set_cons_succ]) | (refine Txt.tl_rowN (n := 38) (ty := 28) (by rfl) (by rfl) (by rfl) R1.out (by kernel_rfl) (he_len x) ?_; simp only [Act.put, List.setIfInBounds_toArray, List.set_cons_zero, List.set_cons_succ]) | (refine Txt.tl_rowN (n := 38) (ty := 28) (by rfl) (by rfl) (by rfl) R2.out (by kernel_rfl) (he_len y) ?_; simp only [Act.put, List.setIfInBounds_toArray, List.set_cons_zero, List.set_cons_succ])))
            refine Txt.tl_nil ?_
            go_wp2
            go_roundw
            case rel => exact ⟨k + 1, by omega, rfl, HNX.out HF0.out, HM.out.take 1⟩
            case measure => simp [intOf]; omega
          | true =>
            refine Txt.wp_region_text (fun _ => True) [0, 0, 0, 0, 0, 0, 0, 1, 1, 0, 0, 0, 0, 0, 0, 1, 0, 0, 0, 1, 4, 0, 0] (by kernel_rfl) (by kernel_rfl) trivial ?_
            (repeat (first | (refine Txt.tl_pure (v := ?_) (by rfl) ?_ ?_; rotate_left; (focus (intro _; go_simp; try with_reducible rfl)); simp only [Act.put, List.setIfInBounds_toArray, List.set_cons_zero, List.set_cons_succ]) | (refine Txt.tl_skip (by rfl) trivial ?_; simp only [Act.put, List.setIfInBounds_toArray, List.set_cons_zero, List.set_cons_succ]) | (refine Txt.tl_rowN (n := 32) (ty := 24) (by rfl) (by rfl) (by rfl) (HM.out.range 0 rfl) (by kernel_rfl) (by rw [List.length_map]; exact Hul.out) ?_; simp only [Act.put, List.setIfInBounds_toArray, List.set_cons_zero, List.set_cons_succ]) | (refine Txt.tl_rowN (n := 32) (ty := 24) (by rfl) (by rfl) (by rfl) (HM.out.range 1 rfl) (by kernel_rfl) (by rw [List.length_map]; exact Hvl.out) ?_; simp only [Act.put, List.setIfInBounds_toArray, List.set_cons_zero, List.set_cons_succ]) | (refine Txt.tl_rowN (n := 38) (ty := 28) (by rfl) (by rfl) (by rfl) R1.out (by kernel_rfl) (he_len x) ?_; simp only [Act.put, List.setIfInBounds_toArray, List.set_cons_zero, List.set_cons_succ]) | (refine Txt.tl_rowN (n := 38) (ty := 28) (by rfl) (by rfl) (by rfl) R2.out (by kernel_rfl) (he_len y) ?_; simp only [Act.put, List.setIfInBounds_toArray, List.set_cons_zero, List.set_cons_succ])))
            refine Txt.tl_call Tryz.func10 (by kernel_rfl) (by kernel_rfl) (by rfl) (by rfl) (by rfl) (vs := #[.agg (he x).toArray, .agg (he y).toArray]) (HSm.out _ HM.out.keep) ?_
            rintro e w4 ⟨rfl, k4⟩
            have HM : Hid _ := HM.out.calm k4
            clear k4
            refine ⟨_, rfl, trivial, ?_⟩
            simp only [Act.put, List.setIfInBounds_toArray, List.set_cons_zero, List.set_cons_succ]
            cases s with
            | false =>
              (repeat (first | (refine Txt.tl_pure (v := ?_) (by rfl) ?_ ?_; rotate_left; (focus (intro _; go_simp; try with_reducible rfl)); simp only [Act.put, List.setIfInBounds_toArray, List.set_cons_zero, List.set_cons_succ]) | (refine Txt.tl_skip (by rfl) trivial ?_; simp only [Act.put, List.setIfInBounds_toArray, List.set_cons_zero, List.set_cons_succ]) | (refine Txt.tl_rowN (n := 32) (ty := 24) (by rfl) (by rfl) (by rfl) (HM.out.range 0 rfl) (by kernel_rfl) (by rw [List.length_map]; exact Hul.out) ?_; simp only [Act.put, List.setIfInBounds_toArray, List.set_cons_zero, List.set_cons_succ]) | (refine Txt.tl_rowN (n := 32) (ty := 24) (by rfl) (by rfl) (by rfl) (HM.out.range 1 rfl) (by kernel_rfl) (by rw [List.length_map]; exact Hvl.out) ?_; simp only [Act.put, List.setIfInBounds_toArray, List.set_cons_zero, List.set_cons_succ]) | (refine Txt.tl_rowN (n := 38) (ty := 28) (by rfl) (by rfl) (by rfl) R1.out (by kernel_rfl) (he_len x) ?_; simp only [Act.put, List.setIfInBounds_toArray, List.set_cons_zero, List.set_cons_succ]) | (refine Txt.tl_rowN (n := 38) (ty := 28) (by rfl) (by rfl) (by rfl) R2.out (by kernel_rfl) (he_len y) ?_; simp only [Act.put, List.setIfInBounds_toArray, List.set_cons_zero, List.set_cons_succ])))
              refine Txt.tl_nil ?_
              go_wp2
              go_ret
              exact TwPost.yes HM.out.keep
            | true =>
              have HF0 : Hid (twp x y = false) := by show _ = _; rw [HTP.out]; rfl
              (repeat (first | (refine Txt.tl_pure (v := ?_) (by rfl) ?_ ?_; rotate_left; (focus (intro _; go_simp; try with_reducible rfl)); simp only [Act.put, List.setIfInBounds_toArray, List.set_cons_zero, List.set_cons_succ]) | (refine Txt.tl_skip (by rfl) trivial ?_; simp only [Act.put, List.setIfInBounds_toArray, List.set_cons_zero, List.set_cons_succ]) | (refine Txt.tl_rowN (n := 32) (ty := 24) (by rfl) (by rfl) (by rfl) (HM.out.range 0 rfl) (by kernel_rfl) (by rw [List.length_map]; exact Hul.out) ?_; simp only [Act.put, List.setIfInBounds_toArray, List.set_cons_zero, List.set_cons_succ]) | (refine Txt.tl_rowN (n := 32) (ty := 24) (by rfl) (by rfl) (by rfl) (HM.out.range 1 rfl) (by kernel_rfl) (by rw [List.length_map]; exact Hvl.out) ?_; simp only [Act.put, List.setIfInBounds_toArray, List.set_cons_zero, List.set_cons_succ]) | (refine Txt.tl_rowN (n := 38) (ty := 28) (by rfl) (by rfl) (by rfl) R1.out (by kernel_rfl) (he_len x) ?_; simp only [Act.put, List.setIfInBounds_toArray, List.set_cons_zero, List.set_cons_succ]) | (refine Txt.tl_rowN (n := 38) (ty := 28) (by rfl) (by rfl) (by rfl) R2.out (by kernel_rfl) (he_len y) ?_; simp only [Act.put, List.setIfInBounds_toArray, List.set_cons_zero, List.set_cons_succ])))
              refine Txt.tl_nil ?_
              go_wp2
              go_roundw
              case rel => exact ⟨k + 1, by omega, rfl, HNX.out HF0.out, HM.out.take 1⟩
              case measure => simp [intOf]; omega
        · obtain rfl : k = i := by omega
          go_wp2
          go_roundw
          case rel =>
            refine ⟨k + 1, by omega, rfl, fun i' j x' y' hi hj hx' hy' => ?_, HM.out.take 0⟩
            rcases Nat.lt_or_ge i' k with h1 | h1
            · exact HNo.out i' j x' y' h1 hj hx' hy'
            · obtain rfl : i' = k := by omega
              rw [Hx.out] at hx'
              cases hx'
              exact HN2.out j y' hj hy'
          case measure => simp [intOf]; omega
    · obtain rfl : i = n := by omega
      have HE : Hid (¬ Tw K) := fun ⟨i', j, x, y, hj, hx, hy, hp⟩ => by
        have := HNo.out i' j x y (by have := (List.getElem?_eq_some_iff.1 hx).1; rw [HA.out.len] at this; exact this) hj hx hy
        rw [this] at hp
        cases hp
      go_wp2
      go_ret
      exact TwPost.no HM.out.keep HE.out
end Nx
end Go.Proofs.YtgllkfolckbdhaaGreatDoor


namespace Go.Proofs.YtgllkfolckbdhaaGreatDoor
open Go.RowKit
namespace Nx
open Oct Ids Gn Hd Ru
theorem fold_max : ∀ (l : List Int) (v : Int), v ≤ l.foldl max v ∧ (∀ x ∈ l, x ≤ l.foldl max v) ∧ (l.foldl max v = v ∨ l.foldl max v ∈ l)
  | [], v => ⟨Int.le_refl _, fun x hx => by (cases hx), .inl rfl⟩
  | a :: l, v => by
    obtain ⟨h1, h2, h3⟩ := fold_max l (max v a)
    rw [List.foldl_cons]
    refine ⟨by omega, fun x hx => ?_, ?_⟩
    · rcases List.mem_cons.1 hx with rfl | hx
      · omega
      · exact h2 x hx
    · rcases h3 with h3 | h3
      · by_cases hv : a ≤ v
        · left; omega
        · right
          have : l.foldl max (max v a) = a := by omega
          rw [this]
          exact List.mem_cons_self
      · exact .inr (List.mem_cons_of_mem _ h3)
theorem most_sub {l l' : List Int} (h : ∀ v ∈ l, v ∈ l') : most l ≤ most l' := by
  obtain ⟨_, _, h3⟩ := fold_max l 0
  obtain ⟨h1, h2, _⟩ := fold_max l' 0
  unfold most
  rcases h3 with h3 | h3
  · omega
  · exact h2 _ (h _ h3)
theorem most_congr {l l' : List Int} (h : ∀ v ∈ l, v ∈ l') (h' : ∀ v ∈ l', v ∈ l) : most l = most l' := Int.le_antisymm (most_sub h) (most_sub h')
theorem sm_G {x y : Hh} (h : sm x y = true) : x.G = y.G := by
  unfold sm smh at h
  rw [Bool.and_eq_true, beq_iff_eq] at h
  exact h.1
theorem notw_G {K : List Hh} (hT : ¬ Tw K) (hK : ∀ x ∈ K, hck x = 0) {x y : Hh} (hx : x ∈ K) (hy : y ∈ K) (h : hiv x = hiv y) : x.G = y.G := by
  obtain ⟨i, hi⟩ := List.getElem?_of_mem hx
  obtain ⟨j, hj⟩ := List.getElem?_of_mem hy
  have key : ∀ (i j : Nat) (x y : Hh), j < i → K[i]? = some x → K[j]? = some y → hiv x = hiv y → x.G = y.G := by
    intro i j x y hlt hi hj h
    cases hs : sm x y with
    | true => exact sm_G hs
    | false =>
      refine absurd ⟨i, j, x, y, hlt, hi, hj, ?_⟩ hT
      unfold twp
      rw [hK x (List.mem_of_getElem? hi), hK y (List.mem_of_getElem? hj), h, hs]
      simp
  rcases Nat.lt_trichotomy i j with h1 | h1 | h1
  · exact (key j i y x h1 hj hi h.symm).symm
  · subst h1
    rw [hi] at hj
    cases hj
    rfl
  · exact key i j x y h1 hi hj h
theorem look_mem {P : List Hh} {y : List UInt8} {z : Hh} (h : Ru.look P y = some z) : z ∈ P ∧ hiv z = y := by
  unfold Ru.look at h
  have h1 := List.find?_some h
  refine ⟨List.mem_of_find?_eq_some h, ?_⟩
  unfold hits at h1
  rw [Bool.and_eq_true, beq_iff_eq, beq_iff_eq] at h1
  exact h1.2
theorem look_of {P : List Hh} {s : Hh} (hs : s ∈ P) (hc : hck s = 0) : (Ru.look P (hiv s)).isSome = true := by
  unfold Ru.look
  rw [List.find?_isSome]
  exact ⟨s, hs, by unfold hits; rw [hc]; simp⟩
theorem keys_of {heads : List Hh} : ∀ ks : List Key, (∀ k ∈ ks, k ∈ heads.map hkey) → ∃ S : List Hh, S.map hkey = ks ∧ ∀ z ∈ S, z ∈ heads
  | [], _ => ⟨[], rfl, fun z hz => by cases hz⟩
  | k :: ks, h => by
    obtain ⟨S, h1, h2⟩ := keys_of ks (fun k' hk' => h k' (List.mem_cons_of_mem _ hk'))
    obtain ⟨z, hz, he⟩ := List.mem_map.1 (h k List.mem_cons_self)
    refine ⟨z :: S, by rw [List.map_cons, he, h1], fun z' hz' => ?_⟩
    rcases List.mem_cons.1 hz' with rfl | hz'
    · exact hz
    · exact h2 z' hz'
theorem sel_S (heads : List Hh) : ∃ S : List Hh, (∀ z ∈ S, z ∈ heads) ∧ S.length ≤ 4 ∧ selL heads = IdL.setL (S.map hiv) ∧ selG heads = hgt S := by
  obtain ⟨S, h1, h2⟩ := keys_of (heads := heads) (sel heads) (fun k hk => (srtD_perm (heads.map hkey)).subset (List.mem_of_mem_take hk))
  refine ⟨S, h2, ?_, ?_, ?_⟩
  · have := congrArg List.length h1
    rw [List.length_map] at this
    rw [this]
    unfold sel
    rw [List.length_take]
    omega
  · unfold selL
    rw [← h1, List.map_map]
    rfl
  · unfold selG hgt
    rw [← h1, List.map_map]
    rfl
theorem new_ck {K S : List Hh} (hG : ∀ x ∈ K, 1 ≤ x.G ∧ x.G ≤ 11) (hS : ∀ z ∈ S, z ∈ K) (h4 : S.length ≤ 4) {A Q : Int} (hA : 0 ≤ A ∧ A ≤ 255) (hQ : 1 ≤ Q ∧ Q ≤ 256) : ck (IdL.setL (S.map hiv)).length (IdL.setL (S.map hiv)) (hgt S) caT A Q 1 = 0 := by
  have hl : (IdL.setL (S.map hiv)).length ≤ 4 := Nat.le_trans (IdL.setL_len _) (by rw [List.length_map]; exact h4)
  have hi : isL (IdL.setL (S.map hiv)) = true := by unfold isL; rw [IdL.setL_self (IdL.setL_srt _)]; simp
  obtain ⟨m1, m2, m3⟩ := fold_max (S.map low) 0
  have hlow : ∀ v ∈ S.map low, 1 ≤ v ∧ v ≤ 11 := fun v hv => by
    obtain ⟨z, hz, rfl⟩ := List.mem_map.1 hv
    have := hG z (hS z hz)
    unfold low
    omega
  have hm : 0 ≤ most (S.map low) ∧ most (S.map low) ≤ 11 := by
    unfold most
    refine ⟨m1, ?_⟩
    rcases m3 with m3 | m3
    · omega
    · exact (hlow _ m3).2
  have h4' : k4 (IdL.setL (S.map hiv)).length (hgt S) = false := by
    unfold k4 hgt
    cases S with
    | nil => rfl
    | cons z S =>
      have h1 := m2 (low z) (by simp)
      have h2 := (hlow (low z) (by simp)).1
      have h3 : hiv z ∈ IdL.setL ((z :: S).map hiv) := (IdL.mem_setL _ _).2 (by simp)
      have h5 := List.length_pos_of_mem h3
      have h6 : ((IdL.setL ((z :: S).map hiv)).length == 0) = false := by rw [beq_eq_false_iff_ne]; omega
      have h7 : (most ((z :: S).map low) + 1 == 1) = false := by
        rw [beq_eq_false_iff_ne]
        unfold most
        omega
      rw [h6, h7]
      rfl
  have e1 : k1 (IdL.setL (S.map hiv)).length = false := by unfold k1; simp; omega
  have e3 : k3 (hgt S) = false := by unfold k3 hgt; simp; omega
  have e5 : k5 caT = false := by decide +kernel
  have e6 : k6 A = false := by unfold k6; simp; omega
  have e7 : k7 Q = false := by unfold k7; simp; omega
  have e8 : k8 1 = false := by decide
  unfold ck kl
  rw [e1, hi, e3, h4', e5, e6, e7, e8]
  rfl
section
variable {K S P : List Hh} {h : Hh} (hK : ∀ x ∈ K, hck x = 0) (hS : ∀ z ∈ S, z ∈ K) (hP : ∀ z ∈ P, z ∈ K) (hT : ¬ Tw K) (hh : hck h = 0) (hl : h.l = IdL.setL (S.map hiv)) (hg : h.G = hgt S)
include hK hS hP hT hh hl hg
theorem vrd_yes (hu : (unk P h.l).length = 0) : vrd h P = 0 := by
  have e : hgt (kn P h.l) = h.G := by
    rw [hg]
    unfold hgt
    refine congrArg (· + 1) (most_congr (fun v hv => ?_) (fun v hv => ?_))
    · obtain ⟨z, hz, rfl⟩ := List.mem_map.1 hv
      unfold kn at hz
      obtain ⟨y, hy, hlk⟩ := List.mem_filterMap.1 hz
      rw [hl, IdL.mem_setL] at hy
      obtain ⟨s, hs, rfl⟩ := List.mem_map.1 hy
      obtain ⟨h1, h2⟩ := look_mem hlk
      have := notw_G hT hK (hP z h1) (hS s hs) h2
      exact List.mem_map.2 ⟨s, hs, by unfold low; rw [this]⟩
    · obtain ⟨s, hs, rfl⟩ := List.mem_map.1 hv
      have hy : hiv s ∈ h.l := by rw [hl, IdL.mem_setL]; exact List.mem_map_of_mem hs
      cases hlk : Ru.look P (hiv s) with
      | none =>
        have : hiv s ∈ unk P h.l := by unfold unk; rw [List.mem_filter]; exact ⟨hy, by rw [hlk]; rfl⟩
        rw [List.eq_nil_of_length_eq_zero hu] at this
        cases this
      | some z =>
        obtain ⟨h1, h2⟩ := look_mem hlk
        have := notw_G hT hK (hP z h1) (hS s hs) h2
        refine List.mem_map.2 ⟨z, ?_, by unfold low; rw [this]⟩
        unfold kn
        exact List.mem_filterMap.2 ⟨hiv s, hy, hlk⟩
  unfold vrd
  rw [if_pos hh, if_pos hu, if_pos e]
end
theorem vrd_not {P : List Hh} {h : Hh} (hh : hck h = 0) (hu : (unk P h.l).length ≠ 0) : vrd h P = 11 := by
  unfold vrd
  rw [if_pos hh, if_neg hu]
theorem unk_all {K S : List Hh} {h : Hh} (hK : ∀ x ∈ K, hck x = 0) (hS : ∀ z ∈ S, z ∈ K) (hl : h.l = IdL.setL (S.map hiv)) : (unk K h.l).length = 0 := by
  refine List.length_eq_zero_iff.2 (List.eq_nil_iff_forall_not_mem.2 fun y hy => ?_)
  unfold unk at hy
  obtain ⟨h1, h2⟩ := List.mem_filter.1 hy
  rw [hl, IdL.mem_setL] at h1
  obtain ⟨s, hs, rfl⟩ := List.mem_map.1 h1
  have h3 := look_of (hS s hs) (hK s (hS s hs))
  cases h4 : Ru.look K (hiv s) with
  | none => rw [h4] at h3; cases h3
  | some z => rw [h4] at h2; cases h2
end Nx
end Go.Proofs.YtgllkfolckbdhaaGreatDoor
