/-
  petrellaw15.chain: headers made one behind the other.
-/
import Derived.Test.YtdpkklinpbmkfaaGreatDoorGLn
import Derived.Test.YtdpkklinpbmkfaaGreatDoorPn5
set_option linter.unusedVariables false
set_option linter.unusedSimpArgs false
namespace Go.Proofs.YtdpkklinpbmkfaaGreatDoor
open Go.RowKit
namespace Nx
open Oct Ids Gn Hd Ru
open Mem (M It blk ids rows)
/-- The parents of headers. -/
def parsH (K : List Hh) : It := ⟨fun k => ∃ x ∈ K, ∃ off, x.a = some ⟨k, off, none⟩, fun w => ∀ x ∈ K, At w x.a x.n x.l, fun w w' S h k n => fun x hx => (h x hx).keep k (fun b off e => n b ⟨x, hx, off, e⟩)⟩
theorem add_parH {F : Nat → Prop} {w0 w : World} {K : List Hh} {x : Hh} {l : List It} (h : M F w0 w (l ++ [parsH K, ids (.slice x.a x.n x.c) x.l])) : M F w0 w (l ++ [parsH (K ++ [x])]) :=
  Mem.M.join h (parsH (K ++ [x])) (fun h1 h2 y hy => by
    rcases List.mem_append.1 hy with hy | hy
    · exact h1 y hy
    · obtain rfl := List.mem_singleton.1 hy
      exact iat h2) (fun k ⟨y, hy, off, e⟩ => by
    rcases List.mem_append.1 hy with hy | hy
    · exact .inl ⟨y, hy, off, e⟩
    · obtain rfl := List.mem_singleton.1 hy
      refine .inr ?_
      show Value.ownBlock _ = some k
      rw [e]
      rfl)
/-- What 'Next' makes behind heads that are as they must be. -/
def nx (a : Option Addr) (c : Nat) (H : List Hh) (A Q : Int) : Hh := ⟨a, (selL H).length, c, selL H, selG H, caT, A, Q, 1, Z32, rfl⟩
theorem next_ch (w : World) (hF : Sha.TabF w) (hKt : Sha.TabK w) (a : Option Addr) (n c : Nat) (H : List Hh) (hA : St.At 38 he w a n H) (hk : ∀ x ∈ H, Hok w x) (hn : n ≤ 20) (A Q : Int) (h0 : ∀ x ∈ H, hck x = 0) (hc : ck (selL H).length (selL H) (selG H) caT A Q 1 = 0) :
    Calls Tryz.prog 31 #[.slice a n c, .string caT, .int .i64 A, .int .i64 Q, .int .i64 1, .agg z32] w fun e w' => ∃ a' c', e = .returned (.tuple #[.agg (he (nx a' c' H A Q)).toArray, .int .i64 0]) ∧ New w w' (.slice a' (selL H).length c') (selL H) := by
  rw [show Value.agg z32 = idv Z32 from rfl]
  refine (next_any w hF hKt a n c H hA hk hn caT A Q 1 Z32 rfl (by unfold maxLen; exact Nat.le_trans (by decide : caT.size ≤ 2) (by omega))).mono fun e w' h => ?_
  have hb : bad H = none := bad_none (fun j y hj => h0 y (List.mem_of_getElem? hj))
  rcases h with ⟨v', h1, _⟩ | ⟨_, ⟨h1, _⟩ | ⟨_, h2⟩⟩
  · rw [hb] at h1; cases h1
  · exact absurd hc h1
  · exact h2
theorem new_G {K S : List Hh} {m : Int} (hm : 0 ≤ m) (hm2 : m ≤ 1000) (hG : ∀ x ∈ K, 1 ≤ x.G ∧ x.G ≤ m) (hS : ∀ z ∈ S, z ∈ K) : 1 ≤ hgt S ∧ hgt S ≤ m + 1 := by
  obtain ⟨m1, m2, m3⟩ := fold_max (S.map low) 0
  unfold hgt most
  refine ⟨by omega, ?_⟩
  rcases m3 with m3 | m3
  · omega
  · obtain ⟨z, hz, e⟩ := List.mem_map.1 m3
    have := hG z (hS z hz)
    have e2 : low z = min z.G 1073741824 := rfl
    omega
theorem orng2 {α : Type} {T : TypeId} {n : Nat} {enc : α → List Value} {w : World} {g q c i : Nat} {L : List α} {y : α} (h : St.Own T n enc w (.slice (some ⟨g, 0, none⟩) q c) L) (hy : L[i]? = some y) : w.rangeAt g (i * n) (enc y) := by
  have hat := hat h
  rcases hat.lay with h0 | ⟨b, off, e, _, hr⟩
  · have := (List.getElem?_eq_some_iff.1 hy).1
    have := hat.len
    omega
  · simp only [Option.some.injEq, Addr.mk.injEq] at e
    obtain ⟨rfl, rfl, -⟩ := e
    have := hr i y hy
    rwa [Nat.zero_add] at this
theorem n11 {v : Int} (h : v = 11) : (v != 11) = false := by subst h; rfl
theorem zcase (v : Int) : v = 0 ∨ ((v != 0) = true ∧ Hid (v ≠ 0)) := if h : v = 0 then .inl h else .inr ⟨by simpa using h, h⟩
/-- What is kept of the chain. -/
structure Chn (K : List Hh) : Prop where
  ck0 : ∀ x ∈ K, hck x = 0
  G : ∀ x ∈ K, 1 ≤ x.G ∧ x.G ≤ (K.length : Int)
  sz : ∀ x ∈ K, x.n ≤ 4 ∧ x.T = caT
theorem Chn.nil : Chn [] := ⟨fun x hx => (by cases hx), fun x hx => (by cases hx), fun x hx => (by cases hx)⟩
theorem Chn.snoc {K : List Hh} (h : Chn K) (hl : K.length ≤ 10) {H : List Hh} (hH : ∀ x ∈ H, x ∈ K) {a : Option Addr} {c : Nat} {A Q : Int} (hA : 0 ≤ A ∧ A ≤ 255) (hQ : 1 ≤ Q ∧ Q ≤ 256) :
    ck (selL H).length (selL H) (selG H) caT A Q 1 = 0 ∧ Chn (K ++ [nx a c H A Q]) ∧ (unk K (selL H)).length = 0 ∧
    (¬ Tw K → ∀ P : List Hh, (∀ z ∈ P, z ∈ K) → (((unk P (selL H)).length = 0 → vrd (nx a c H A Q) P = 0) ∧ ((unk P (selL H)).length ≠ 0 → vrd (nx a c H A Q) P = 11))) := by
  obtain ⟨S, h1, h4, e1, e2⟩ := sel_S H
  have hS : ∀ z ∈ S, z ∈ K := fun z hz => hH z (h1 z hz)
  have hc : ck (selL H).length (selL H) (selG H) caT A Q 1 = 0 := by
    rw [e1, e2]
    exact new_ck (K := K) (fun x hx => by have := h.G x hx; omega) hS h4 hA hQ
  have hg := new_G (m := (K.length : Int)) (by omega) (by omega) (fun x hx => h.G x hx) hS
  have hl4 : (selL H).length ≤ 4 := by rw [e1]; exact Nat.le_trans (IdL.setL_len _) (by rw [List.length_map]; exact h4)
  refine ⟨hc, ⟨fun x hx => ?_, fun x hx => ?_, fun x hx => ?_⟩, ?_, fun hT P hP => ⟨fun hu => ?_, fun hu => ?_⟩⟩
  · rcases List.mem_append.1 hx with hx | hx
    · exact h.ck0 x hx
    · obtain rfl := List.mem_singleton.1 hx
      exact hc
  · have hlen : ((K ++ [nx a c H A Q]).length : Int) = K.length + 1 := by simp
    rw [hlen]
    rcases List.mem_append.1 hx with hx | hx
    · have := h.G x hx
      omega
    · obtain rfl := List.mem_singleton.1 hx
      show 1 ≤ selG H ∧ selG H ≤ _
      rw [e2]
      exact hg
  · rcases List.mem_append.1 hx with hx | hx
    · exact h.sz x hx
    · obtain rfl := List.mem_singleton.1 hx
      exact ⟨hl4, rfl⟩
  · exact unk_all (h := nx a c H A Q) h.ck0 hS e1
  · exact vrd_yes (h := nx a c H A Q) h.ck0 hS hP hT hc e1 e2 hu
  · exact vrd_not (h := nx a c H A Q) hc hu
structure ChPost (w : World) (e : Ending) (w' : World) : Prop where
  ex : ∃ (v : Value) (K : List Hh) (ok : Bool), e = .returned (.tuple #[v, .bool ok]) ∧ M (fun _ => False) w w' [rows 30 38 he v K, parsH K] ∧ K.length ≤ 10 ∧ Chn K ∧ (ok = false → Tw K)
theorem tw_snoc {K : List Hh} {x : Hh} (h : Tw K) : Tw (K ++ [x]) := by
  obtain ⟨i, k, y, z, h1, h2, h3, h4⟩ := h
  have hi := (List.getElem?_eq_some_iff.1 h2).1
  exact ⟨i, k, y, z, h1, by rw [List.getElem?_append_left hi]; exact h2, by rw [List.getElem?_append_left (by omega)]; exact h3, h4⟩
set_option maxRecDepth 100000 in
set_option maxHeartbeats 16000000 in
theorem chain_any (w : World) (hF : Sha.TabF w) (hKt : Sha.TabK w) (a : Option Addr) (n c : Nat) (L : List Int) (hA : St.At 1 (fun x : Int => [.int .u8 x]) w a n L) (hL : ∀ x ∈ L, 0 ≤ x ∧ x ≤ 255) (s : Int) (hs : 0 ≤ s ∧ s ≤ 255) :
    Calls Tryz.prog 39 #[.slice a n c, .int .u8 s] w (ChPost w) := by
  have HF : Hid (Sha.TabF w) := hF
  have HKt : Hid (Sha.TabK w) := hKt
  have HA : Hid (St.At 1 (fun x : Int => [.int .u8 x]) w a n L) := hA
  have HL : Hid (∀ x ∈ L, 0 ≤ x ∧ x ≤ 255) := hL
  have hnm := hA.most
  unfold maxLen at hnm
  obtain ⟨hs0, hs1⟩ := hs
  have HM : Hid (M (fun _ => False) w w [rows 30 38 he (.slice none 0 0) [], parsH []]) := ((M.start (fun _ => False) w).nilR 30 38 he).add (x := parsH []) (Keep.refl _ _) (fun x hx => by cases hx) (fun k ⟨x, hx, _⟩ => by cases hx)
  clear hF hKt hA hL
  go_enter Tryz.func39, Tryz.ntmps39
  go_wp2
  go_loopw [6, 7] (fun s6 s7 wr => ∃ (k : Nat) (v : Value) (K : List Hh), k ≤ n ∧ k ≤ 10 ∧ s7 = .int .i64 k ∧ s6 = v ∧ K.length = k ∧ Chn K ∧ M (fun _ => False) w wr [rows 30 38 he v K, parsH K]) (fun _ s7 _ => 10 - (intOf s7).toNat)
  case atStart => exact ⟨0, _, [], Nat.zero_le _, Nat.zero_le _, rfl, rfl, rfl, Chn.nil, HM.out⟩
  case round =>
    clear HM
    obtain ⟨k, v, K, hkn, hk10, rfl, hv, hKl, hch, hM⟩ := hrel
    replace hv := hv.symm
    subst hv
    have HM : Hid _ := hM
    have HC : Hid (Chn K) := hch
    have HKl : Hid (K.length = k) := hKl
    clear hM hch hKl
    by_cases hlt : k < n ∧ k < 10
    · obtain ⟨hlt, hlt2⟩ := hlt
      obtain ⟨x0, hx0⟩ : ∃ x, L[k]? = some x := ⟨_, List.getElem?_eq_getElem (by rw [HA.out.len]; exact hlt)⟩
      obtain ⟨b1, o1, rfl, hb1, hr1⟩ : ∃ b off, a = some ⟨b, off, none⟩ ∧ b < w.heap.size ∧ ∀ i x, L[i]? = some x → w.rangeAt b (off + i * 1) [Value.int .u8 x] := by rcases HA.out.lay with e | e; omega; exact e
      have HB1 : Hid (b1 < w.heap.size) := hb1
      have HR : Hid (w.rangeAt b1 (o1 + k * 1) [Value.int .u8 x0]) := hr1 k x0 hx0
      obtain ⟨hx1, hx2⟩ := HL.out x0 (List.mem_of_getElem? hx0)
      clear hr1 hx0 hb1
      obtain ⟨av, cv, ev, hatv⟩ := (show St.Own 30 38 he wr v K from HM.out.get 0 rfl).any
      rw [HKl.out] at ev hatv
      subst ev
      clear hatv
      go_wp2
      have HM : Hid _ := HM.out.nilR 30 38 he
      go_loopw [8, 9] (fun s8 s9 wr => ∃ (q : Nat) (hv : Value) (H : List Hh), q ≤ k ∧ q ≤ 8 ∧ s9 = .int .i64 q ∧ s8 = hv ∧ (∀ x ∈ H, x ∈ K) ∧ H.length ≤ q ∧ M (fun _ => False) w wr [rows 30 38 he (.slice av k cv) K, parsH K, rows 30 38 he hv H]) (fun _ s9 _ => 8 - (intOf s9).toNat)
      case atStart => exact ⟨0, _, [], Nat.zero_le _, Nat.zero_le _, rfl, rfl, fun x hx => (by cases hx), Nat.zero_le _, HM.out⟩
      case round =>
        clear HM
        obtain ⟨q, hv, H, hqk, hq8, rfl, ehv, hHK, hHl, hM⟩ := hrel
        replace ehv := ehv.symm
        subst ehv
        have HM : Hid _ := hM
        have HHK : Hid (∀ x ∈ H, x ∈ K) := hHK
        have HHl : Hid (H.length ≤ q) := hHl
        clear hM hHK hHl
        by_cases hlq : q < k ∧ q < 8
        · obtain ⟨hlq, hlq2⟩ := hlq
          have dL : wr.cell? ⟨b1, o1 + k, none⟩ = some (.int .u8 x0) := by
            have := HM.out.keep.range HB1.out (fun h => h) HR.out 0 _ rfl
            rw [show o1 + k * 1 + 0 = o1 + k by omega] at this
            exact this
          obtain ⟨y, hy⟩ : ∃ x, K[q]? = some x := ⟨_, List.getElem?_eq_getElem (by rw [HKl.out]; exact hlq)⟩
          obtain ⟨g, c2, e2, _⟩ := Px.own_some (show St.Own 30 38 he wr (.slice av k cv) K from HM.out.get 0 rfl) (by rw [HKl.out]; omega)
          simp only [Value.slice.injEq] at e2
          obtain ⟨rfl, -, -⟩ := e2
          have R1 : Hid (wr.rangeAt g (q * 38) (he y)) := orng2 (show St.Own 30 38 he wr (.slice (some ⟨g, 0, none⟩) k cv) K from HM.out.get 0 rfl) hy
          have Hym : Hid (y ∈ K) := List.mem_of_getElem? hy
          have Hl : Hid (H.length ≤ 1000000) := by show _ ≤ _; have := HHl.out; omega
          clear hy
          go_wp2_with (first | ((with_reducible refine at_load 30 ?_); refine St.wl_load tyH (by rfl) rfl rfl R1.out (he_len y) ?_; simp only [Act.put, List.setIfInBounds_toArray, List.set_cons_zero, List.set_cons_succ]) | (refine St.wl_build slHe (by decide) rfl rfl (he_len y) rfl ?_; have HM : Hid _ := HM.out.alloc (.cells (he y).toArray 30) (by first | rfl | simp only [World.size_alloc]); simp only [Act.put, List.setIfInBounds_toArray, List.set_cons_zero, List.set_cons_succ]) | (refine St.wl_app1 slHe (by decide) rfl rfl rfl (HM.out.get 2 rfl) rfl (he_len y) (he_one y) (HM.out.get 3 rfl) Hl.out ?_; intro v3 w3 h1 k1 h3; have HM : Hid _ := HM.out.appR 2 rfl h1 k1 h3; clear h1 k1 h3; simp only [Act.put, List.setIfInBounds_toArray, List.set_cons_zero, List.set_cons_succ]))
          all_goals
            go_roundw
            case rel => first | exact ⟨q + 1, _, H ++ [y], by omega, by omega, rfl, rfl, fun x hx => (by rcases List.mem_append.1 hx with hx | hx; exact HHK.out x hx; (obtain rfl := List.mem_singleton.1 hx; exact Hym.out)), (by have := HHl.out; simp; omega), HM.out.take 3⟩ | exact ⟨q + 1, _, H, by omega, by omega, rfl, rfl, HHK.out, (by have := HHl.out; omega), HM.out⟩
            case measure => simp [intOf]; omega
        · have hcs : k ≤ q ∨ (q < k ∧ 8 ≤ q) := by omega
          clear hlq
          have HHl : Hid (H.length ≤ 8) := by show _ ≤ _; have := HHl.out; omega
          obtain ⟨ah, chh, eh, _⟩ := (show St.Own 30 38 he wr hv H from HM.out.get 2 rfl).any
          subst eh
          obtain ⟨hc0, hsn⟩ := (⟨(HC.out.snoc (by rw [HKl.out]; exact hk10) HHK.out (a := none) (c := 0) (A := (k : Int)) (Q := 1 + s) (by omega) (by omega)).1, fun a c => (HC.out.snoc (by rw [HKl.out]; exact hk10) HHK.out (a := a) (c := c) (A := (k : Int)) (Q := 1 + s) (by omega) (by omega)).2⟩ : _ ∧ _)
          have HSn : Hid _ := hsn
          have HNx : Hid (∀ w', Keep (fun _ => False) w w' → St.At 38 he w' ah H.length H → (∀ x ∈ K, At w' x.a x.n x.l) → Calls Tryz.prog 31 #[.slice ah H.length chh, .string caT, .int .i64 k, .int .i64 (1 + s), .int .i64 1, .agg z32] w' fun e w'' => ∃ a' c', e = .returned (.tuple #[.agg (he (nx a' c' H k (1 + s))).toArray, .int .i64 0]) ∧ New w' w'' (.slice a' (selL H).length c') (selL H)) := fun w' k' h1 h2 => next_ch w' (HF.out.keep k' (fun h => h)) (HKt.out.keep k' (fun h => h)) ah H.length chh H h1 (fun x hx => ⟨h2 x (HHK.out x hx), by have := (HC.out.sz x (HHK.out x hx)).1; omega, by rw [(HC.out.sz x (HHK.out x hx)).2]; unfold maxLen; exact Nat.le_trans (by decide : caT.size ≤ 2) (by omega)⟩) (by have := HHl.out; omega) k (1 + s) (fun x hx => HC.out.ck0 x (HHK.out x hx)) hc0
          have HOk : Hid (∀ w', (∀ x ∈ K, At w' x.a x.n x.l) → ∀ x ∈ K, Hok w' x) := fun w' h2 x hx => ⟨h2 x hx, by have := (HC.out.sz x hx).1; omega, by rw [(HC.out.sz x hx).2]; unfold maxLen; exact Nat.le_trans (by decide : caT.size ≤ 2) (by omega)⟩
          have HOx : Hid (∀ w' a2 c2, At w' a2 (selL H).length (selL H) → Hok w' (nx a2 c2 H k (1 + s))) := fun w' a2 c2 h => ⟨h, by have := ((HSn.out a2 c2).1.sz (nx a2 c2 H k (1 + s)) (by simp)).1; omega, by unfold maxLen; exact Nat.le_trans (by decide : caT.size ≤ 2) (by omega)⟩
          have HVd : Hid (∀ w' a2 c2, Keep (fun _ => False) w w' → St.At 38 he w' av k K → (∀ x ∈ K, At w' x.a x.n x.l) → At w' a2 (selL H).length (selL H) → Calls Tryz.prog 33 #[.agg (he (nx a2 c2 H k (1 + s))).toArray, .slice av k cv] w' fun e w'' => e = .returned (.int .i64 (vrd (nx a2 c2 H k (1 + s)) K)) ∧ Keep (fun _ => False) w' w'') := fun w' a2 c2 k' h1 h2 h3 => verdict_any w' (HF.out.keep k' (fun h => h)) (HKt.out.keep k' (fun h => h)) _ (HOx.out _ _ _ h3) av k cv K h1 (HOk.out w' h2) (by omega)
          have HUn : Hid (∀ w' a2 c2, Keep (fun _ => False) w w' → St.At 38 he w' av k K → (∀ x ∈ K, At w' x.a x.n x.l) → At w' a2 (selL H).length (selL H) → Calls Tryz.prog 35 #[.agg (he (nx a2 c2 H k (1 + s))).toArray, .slice av k cv] w' fun e w'' => ∃ v, e = .returned v ∧ New w' w'' v (unk K (selL H))) := fun w' a2 c2 k' h1 h2 h3 => unknown_any w' (HF.out.keep k' (fun h => h)) (HKt.out.keep k' (fun h => h)) _ (HOx.out _ _ _ h3) av k cv K h1 (HOk.out w' h2) (by omega)
          obtain ⟨hn, hhn⟩ : ∃ q, H.length = q := ⟨_, rfl⟩
          rw [hhn] at HM HNx
          rw [hhn]
          clear hc0 hsn hhn
          rcases hcs with h | ⟨h, h'⟩
          all_goals
            go_wp2_with (first | (refine St.wl_buildV (T := 28) (parts := #[]) rfl rfl (cs := z32) (by kernel_rfl) ?_; simp only [Act.put, List.setIfInBounds_toArray, List.set_cons_zero, List.set_cons_succ]) | (go_at_call 31; refine (HNx.out _ HM.out.keep (hat (HM.out.get 2 rfl)) (HM.out.get 1 rfl)).mono ?_; rintro e w2 ⟨a2, c2, rfl, n2⟩; have HM : Hid _ := HM.out.add (x := ids (.slice a2 (selL H).length c2) (selL H)) n2.2.1 n2.1 (fun k hk => ⟨n2.2.2 k hk, n2.1.lt hk⟩); clear n2) | ((with_reducible refine at_alloc 30 ?_); refine St.wl_alloc tyH rfl rfl (by (try simp only [World.size_alloc]); rfl) ?_; simp only [Act.put, List.setIfInBounds_toArray, List.set_cons_zero, List.set_cons_succ]) | ((with_reducible refine at_store 30 ?_); refine St.wl_storeN (W := w2) tyH rfl rfl rfl rfl rfl (by (try simp only [World.size_alloc])) (show _ = Value.agg (he (nx a2 c2 H k (1 + s))).toArray from rfl) (he_sz _) rfl (he_one _) ?_; have HM : Hid _ := HM.out.alloc (.cells (he (nx a2 c2 H k (1 + s))).toArray 30) rfl) | ((with_reducible refine at_load 30 ?_); refine St.wl_load tyH (by rfl) rfl rfl (HM.out.range 4 rfl) (he_len (nx a2 c2 H k (1 + s))) ?_; simp only [Act.put, List.setIfInBounds_toArray, List.set_cons_zero, List.set_cons_succ]) | (go_at_call 33; refine (HVd.out _ a2 c2 HM.out.keep (hat (HM.out.get 0 rfl)) (HM.out.get 1 rfl) (iat (HM.out.get 3 rfl))).mono ?_; generalize hv0 : vrd (nx a2 c2 H (k : Int) (1 + s)) K = v0; have HT0 : Hid (¬ Tw K → v0 = 0) := (fun h => by rw [← hv0]; exact ((HSn.out a2 c2).2.2 h K (fun z hz => hz)).1 (HSn.out a2 c2).2.1); clear hv0; rintro e w3 ⟨rfl, k3⟩; have HM : Hid _ := HM.out.calm k3; clear k3; rcases zcase v0 with rfl | ⟨h1, H0⟩) | (go_at_call 35; refine (HUn.out _ a2 c2 HM.out.keep (hat (HM.out.get 0 rfl)) (HM.out.get 1 rfl) (iat (HM.out.get 3 rfl))).mono ?_; rintro e w4 ⟨v4, rfl, n4⟩; obtain ⟨a4, c4, e4, _⟩ := n4.1.at; rw [(HSn.out a2 c2).2.1] at e4; subst e4; have HM : Hid _ := HM.out.calm n4.2.1; clear n4))
            all_goals
              obtain ⟨bx, hbx⟩ : ∃ b, w2.heap.size = b := ⟨_, rfl⟩
              rw [hbx] at HM
              rw [hbx]
              clear hbx
              generalize hxx : nx a2 c2 H (k : Int) (1 + s) = x at *
              have HX : Hid (x.a = a2 ∧ x.n = (selL H).length ∧ x.c = c2 ∧ x.l = selL H) := by show _ ∧ _; rw [← hxx]; exact ⟨rfl, rfl, rfl, rfl⟩
              have HCx : Hid (Chn (K ++ [x])) := by show Chn _; rw [← hxx]; exact (HSn.out a2 c2).1
              have HVx : Hid (¬ Tw K → ∀ P : List Hh, (∀ z ∈ P, z ∈ K) → (((unk P (selL H)).length = 0 → vrd x P = 0) ∧ ((unk P (selL H)).length ≠ 0 → vrd x P = 11))) := by rw [← hxx]; exact (HSn.out a2 c2).2.2
              have HVj : Hid (∀ w' (j : Nat), Keep (fun _ => False) w w' → j ≤ k → ∀ g, St.At 38 he w' (some ⟨g, 0, none⟩) j (K.take j) → (∀ x ∈ K, At w' x.a x.n x.l) → At w' a2 (selL H).length (selL H) → Calls Tryz.prog 33 #[.agg (he x).toArray, .slice (some ⟨g, 0, none⟩) j cv] w' fun e w'' => e = .returned (.int .i64 (vrd x (K.take j))) ∧ Keep (fun _ => False) w' w'') := fun w' j k' hj g h1 h2 h3 => by rw [← hxx]; exact verdict_any w' (HF.out.keep k' (fun h => h)) (HKt.out.keep k' (fun h => h)) _ (HOx.out _ _ _ h3) _ j cv _ h1 (fun x hx => HOk.out w' h2 x (List.mem_of_mem_take hx)) (by omega)
              have HUj : Hid (∀ w' (j : Nat), Keep (fun _ => False) w w' → j ≤ k → ∀ g, St.At 38 he w' (some ⟨g, 0, none⟩) j (K.take j) → (∀ x ∈ K, At w' x.a x.n x.l) → At w' a2 (selL H).length (selL H) → Calls Tryz.prog 35 #[.agg (he x).toArray, .slice (some ⟨g, 0, none⟩) j cv] w' fun e w'' => ∃ v, e = .returned v ∧ New w' w'' v (unk (K.take j) (selL H))) := fun w' j k' hj g h1 h2 h3 => by rw [← hxx]; exact unknown_any w' (HF.out.keep k' (fun h => h)) (HKt.out.keep k' (fun h => h)) _ (HOx.out _ _ _ h3) _ j cv _ h1 (fun x hx => HOk.out w' h2 x (List.mem_of_mem_take hx)) (by omega)
              clear hxx HSn HVd HUn HNx
              go_loopw [12, 13, 14] (fun s12 s13 s14 wr => ∃ (j : Nat) (b : Bool), j ≤ k ∧ s13 = .int .i64 j ∧ s12 = .bool b ∧ (¬ Tw K → b = false) ∧ M (fun _ => False) w wr [rows 30 38 he (.slice av k cv) K, parsH K, rows 30 38 he (.slice ah hn chh) H, ids (.slice a2 (selL H).length c2) (selL H), blk bx (.cells (he x).toArray 30)]) (fun _ s13 _ _ => k - (intOf s13).toNat)
              case atStart =>
                refine ⟨0, _, Nat.zero_le _, rfl, rfl, fun hT => ?_, HM.out.take 5⟩
                first | rfl | exact absurd (HT0.out hT) H0.out
              case round =>
                clear HM
                obtain ⟨j, b, hjk, rfl, rfl, hbT, hM⟩ := hrel
                have HM : Hid _ := hM
                have HbT : Hid (¬ Tw K → b = false) := hbT
                clear hM hbT
                by_cases hlj : j < k
                · obtain ⟨g, c3, e3, hc3, hc4, _⟩ := Px.own_some (show St.Own 30 38 he wr (.slice av k cv) K from HM.out.get 0 rfl) (by rw [HKl.out]; omega)
                  simp only [Value.slice.injEq] at e3
                  obtain ⟨rfl, -, rfl⟩ := e3
                  rw [HKl.out] at hc3
                  unfold maxLen at hc4
                  have hjz : (j : Int) ≤ (cv : Int) := by omega
                  obtain ⟨v1, hv1⟩ : ∃ v, vrd x (K.take j) = v := ⟨_, rfl⟩
                  obtain ⟨q1, hq1⟩ : ∃ q, (unk (K.take j) (selL H)).length = q := ⟨_, rfl⟩
                  have HT1 : Hid (¬ Tw K → (q1 = 0 → v1 = 0) ∧ (q1 ≠ 0 → v1 = 11)) := fun hT => by
                    have := HVx.out hT (K.take j) (fun z hz => List.mem_of_mem_take hz)
                    rwa [hv1, hq1] at this
                  have Hv1 : Hid (vrd x (K.take j) = v1) := hv1
                  have Hq1 : Hid ((unk (K.take j) (selL H)).length = q1) := hq1
                  clear hv1 hq1
                  go_wp2
                  have HM : Hid _ := HM.out.drew
                  refine Txt.wp_region_text (fun _ => True) [1, 0, 0, 0, 4, 0] (by kernel_rfl) (by kernel_rfl) trivial ?_
                  (repeat (first | (refine Txt.tl_pure (v := ?_) (by rfl) ?_ ?_; rotate_left; (focus (intro _; go_simp; try with_reducible rfl)); simp only [Act.put, List.setIfInBounds_toArray, List.set_cons_zero, List.set_cons_succ]) | (refine Txt.tl_skip (by rfl) trivial ?_; simp only [Act.put, List.setIfInBounds_toArray, List.set_cons_zero, List.set_cons_succ]) | (refine Txt.tl_rowN (n := 38) (ty := 30) (by rfl) (by rfl) (by rfl) (HM.out.range 4 rfl) (by kernel_rfl) (he_len x) ?_; simp only [Act.put, List.setIfInBounds_toArray, List.set_cons_zero, List.set_cons_succ])))
                  refine Txt.tl_call Tryz.func33 (by kernel_rfl) (by kernel_rfl) (by rfl) (by rfl) (by rfl) (vs := #[.agg (he x).toArray, .slice (some ⟨g, 0, none⟩) j cv]) (HVj.out _ j HM.out.keep hjk g (Px.own_cut (HM.out.get 0 rfl) j hjk) (HM.out.get 1 rfl) (iat (HM.out.get 3 rfl))) ?_
                  rw [Hv1.out]
                  rintro e w5 ⟨rfl, k5⟩
                  have HM : Hid _ := HM.out.calm k5
                  clear k5
                  refine ⟨_, rfl, trivial, ?_⟩
                  simp only [Act.put, List.setIfInBounds_toArray, List.set_cons_zero, List.set_cons_succ]
                  (repeat (first | (refine Txt.tl_pure (v := ?_) (by rfl) ?_ ?_; rotate_left; (focus (intro _; go_simp; try with_reducible rfl)); simp only [Act.put, List.setIfInBounds_toArray, List.set_cons_zero, List.set_cons_succ]) | (refine Txt.tl_skip (by rfl) trivial ?_; simp only [Act.put, List.setIfInBounds_toArray, List.set_cons_zero, List.set_cons_succ]) | (refine Txt.tl_rowN (n := 38) (ty := 30) (by rfl) (by rfl) (by rfl) (HM.out.range 4 rfl) (by kernel_rfl) (he_len x) ?_; simp only [Act.put, List.setIfInBounds_toArray, List.set_cons_zero, List.set_cons_succ])))
                  refine Txt.tl_nil ?_
                  go_wp2
                  have HM : Hid _ := HM.out.drew
                  cases b with
                  | true =>
                    refine Txt.wp_region_text (fun _ => True) [0, 0, 0, 0, 1, 0, 0, 0, 4, 0, 0, 0, 0, 0, 0, 0, 0, 0, 0, 0, 0, 0] (by kernel_rfl) (by kernel_rfl) trivial ?_
                    (repeat (first | (refine Txt.tl_pure (v := ?_) (by rfl) ?_ ?_; rotate_left; (focus (intro _; go_simp; try with_reducible rfl)); simp only [Act.put, List.setIfInBounds_toArray, List.set_cons_zero, List.set_cons_succ]) | (refine Txt.tl_skip (by rfl) trivial ?_; simp only [Act.put, List.setIfInBounds_toArray, List.set_cons_zero, List.set_cons_succ]) | (refine Txt.tl_rowN (n := 38) (ty := 30) (by rfl) (by rfl) (by rfl) (HM.out.range 4 rfl) (by kernel_rfl) (he_len x) ?_; simp only [Act.put, List.setIfInBounds_toArray, List.set_cons_zero, List.set_cons_succ])))
                    refine Txt.tl_nil ?_
                    go_wp2
                    go_roundw
                    case rel => exact ⟨j + 1, _, by omega, rfl, rfl, fun hT => HbT.out hT, HM.out⟩
                    case measure => simp [intOf]; omega
                  | false =>
                    by_cases h1 : v1 = 0
                    · subst h1
                      by_cases h2 : q1 = 0
                      · subst h2
                        refine Txt.wp_region_text (fun _ => True) [0, 0, 0, 0, 1, 0, 0, 0, 4, 0, 0, 0, 0, 0, 0, 0, 0, 0, 0, 0, 0, 0] (by kernel_rfl) (by kernel_rfl) trivial ?_
                        (repeat (first | (refine Txt.tl_pure (v := ?_) (by rfl) ?_ ?_; rotate_left; (focus (intro _; go_simp; try with_reducible rfl)); simp only [Act.put, List.setIfInBounds_toArray, List.set_cons_zero, List.set_cons_succ]) | (refine Txt.tl_skip (by rfl) trivial ?_; simp only [Act.put, List.setIfInBounds_toArray, List.set_cons_zero, List.set_cons_succ]) | (refine Txt.tl_rowN (n := 38) (ty := 30) (by rfl) (by rfl) (by rfl) (HM.out.range 4 rfl) (by kernel_rfl) (he_len x) ?_; simp only [Act.put, List.setIfInBounds_toArray, List.set_cons_zero, List.set_cons_succ])))
                        refine Txt.tl_call Tryz.func35 (by kernel_rfl) (by kernel_rfl) (by rfl) (by rfl) (by rfl) (vs := #[.agg (he x).toArray, .slice (some ⟨g, 0, none⟩) j cv]) (HUj.out _ j HM.out.keep hjk g (Px.own_cut (HM.out.get 0 rfl) j hjk) (HM.out.get 1 rfl) (iat (HM.out.get 3 rfl))) ?_
                        rintro e w6 ⟨v6, rfl, n6⟩
                        obtain ⟨a6, c6, e6, _⟩ := n6.1.at
                        rw [Hq1.out] at e6
                        subst e6
                        have HM : Hid _ := HM.out.calm n6.2.1
                        clear n6
                        refine ⟨_, rfl, trivial, ?_⟩
                        simp only [Act.put, List.setIfInBounds_toArray, List.set_cons_zero, List.set_cons_succ]
                        (repeat (first | (refine Txt.tl_pure (v := ?_) (by rfl) ?_ ?_; rotate_left; (focus (intro _; go_simp; try with_reducible rfl)); simp only [Act.put, List.setIfInBounds_toArray, List.set_cons_zero, List.set_cons_succ]) | (refine Txt.tl_skip (by rfl) trivial ?_; simp only [Act.put, List.setIfInBounds_toArray, List.set_cons_zero, List.set_cons_succ]) | (refine Txt.tl_rowN (n := 38) (ty := 30) (by rfl) (by rfl) (by rfl) (HM.out.range 4 rfl) (by kernel_rfl) (he_len x) ?_; simp only [Act.put, List.setIfInBounds_toArray, List.set_cons_zero, List.set_cons_succ])))
                        refine Txt.tl_nil ?_
                        go_wp2
                        go_roundw
                        case rel => exact ⟨j + 1, _, by omega, rfl, rfl, fun _ => rfl, HM.out⟩
                        case measure => simp [intOf]; omega
                      · have hq2 : ((q1 : Int) == 0) = false := by rw [beq_eq_false_iff_ne]; omega
                        have H2 : Hid (q1 ≠ 0) := h2
                        clear h2
                        refine Txt.wp_region_text (fun _ => True) [0, 0, 0, 0, 1, 0, 0, 0, 4, 0, 0, 0, 0, 0, 0, 0, 0, 0, 0, 0, 0, 0] (by kernel_rfl) (by kernel_rfl) trivial ?_
                        (repeat (first | (refine Txt.tl_pure (v := ?_) (by rfl) ?_ ?_; rotate_left; (focus (intro _; go_simp; try with_reducible rfl)); simp only [Act.put, List.setIfInBounds_toArray, List.set_cons_zero, List.set_cons_succ]) | (refine Txt.tl_skip (by rfl) trivial ?_; simp only [Act.put, List.setIfInBounds_toArray, List.set_cons_zero, List.set_cons_succ]) | (refine Txt.tl_rowN (n := 38) (ty := 30) (by rfl) (by rfl) (by rfl) (HM.out.range 4 rfl) (by kernel_rfl) (he_len x) ?_; simp only [Act.put, List.setIfInBounds_toArray, List.set_cons_zero, List.set_cons_succ])))
                        refine Txt.tl_call Tryz.func35 (by kernel_rfl) (by kernel_rfl) (by rfl) (by rfl) (by rfl) (vs := #[.agg (he x).toArray, .slice (some ⟨g, 0, none⟩) j cv]) (HUj.out _ j HM.out.keep hjk g (Px.own_cut (HM.out.get 0 rfl) j hjk) (HM.out.get 1 rfl) (iat (HM.out.get 3 rfl))) ?_
                        rintro e w6 ⟨v6, rfl, n6⟩
                        obtain ⟨a6, c6, e6, _⟩ := n6.1.at
                        rw [Hq1.out] at e6
                        subst e6
                        have HM : Hid _ := HM.out.calm n6.2.1
                        clear n6
                        refine ⟨_, rfl, trivial, ?_⟩
                        simp only [Act.put, List.setIfInBounds_toArray, List.set_cons_zero, List.set_cons_succ]
                        (repeat (first | (refine Txt.tl_pure (v := ?_) (by rfl) ?_ ?_; rotate_left; (focus (intro _; go_simp; try with_reducible rfl)); simp only [Act.put, List.setIfInBounds_toArray, List.set_cons_zero, List.set_cons_succ]) | (refine Txt.tl_skip (by rfl) trivial ?_; simp only [Act.put, List.setIfInBounds_toArray, List.set_cons_zero, List.set_cons_succ]) | (refine Txt.tl_rowN (n := 38) (ty := 30) (by rfl) (by rfl) (by rfl) (HM.out.range 4 rfl) (by kernel_rfl) (he_len x) ?_; simp only [Act.put, List.setIfInBounds_toArray, List.set_cons_zero, List.set_cons_succ])))
                        refine Txt.tl_nil ?_
                        go_wp2
                        go_roundw
                        case rel => exact ⟨j + 1, _, by omega, rfl, rfl, fun hT => absurd ((HT1.out hT).2 H2.out) (by decide), HM.out⟩
                        case measure => simp [intOf]; omega
                    · have hv2 : (v1 == 0) = false := by rw [beq_eq_false_iff_ne]; exact h1
                      have hv3 : (v1 != 0) = true := by simpa using h1
                      have H1 : Hid (v1 ≠ 0) := h1
                      clear h1
                      by_cases h2 : q1 = 0
                      · subst h2
                        refine Txt.wp_region_text (fun _ => True) [0, 0, 0, 0, 1, 0, 0, 0, 4, 0, 0, 0, 0, 0, 0, 0, 0, 0, 0, 0, 0, 0] (by kernel_rfl) (by kernel_rfl) trivial ?_
                        (repeat (first | (refine Txt.tl_pure (v := ?_) (by rfl) ?_ ?_; rotate_left; (focus (intro _; go_simp; try with_reducible rfl)); simp only [Act.put, List.setIfInBounds_toArray, List.set_cons_zero, List.set_cons_succ]) | (refine Txt.tl_skip (by rfl) trivial ?_; simp only [Act.put, List.setIfInBounds_toArray, List.set_cons_zero, List.set_cons_succ]) | (refine Txt.tl_rowN (n := 38) (ty := 30) (by rfl) (by rfl) (by rfl) (HM.out.range 4 rfl) (by kernel_rfl) (he_len x) ?_; simp only [Act.put, List.setIfInBounds_toArray, List.set_cons_zero, List.set_cons_succ])))
                        refine Txt.tl_call Tryz.func35 (by kernel_rfl) (by kernel_rfl) (by rfl) (by rfl) (by rfl) (vs := #[.agg (he x).toArray, .slice (some ⟨g, 0, none⟩) j cv]) (HUj.out _ j HM.out.keep hjk g (Px.own_cut (HM.out.get 0 rfl) j hjk) (HM.out.get 1 rfl) (iat (HM.out.get 3 rfl))) ?_
                        rintro e w6 ⟨v6, rfl, n6⟩
                        obtain ⟨a6, c6, e6, _⟩ := n6.1.at
                        rw [Hq1.out] at e6
                        subst e6
                        have HM : Hid _ := HM.out.calm n6.2.1
                        clear n6
                        refine ⟨_, rfl, trivial, ?_⟩
                        simp only [Act.put, List.setIfInBounds_toArray, List.set_cons_zero, List.set_cons_succ]
                        (repeat (first | (refine Txt.tl_pure (v := ?_) (by rfl) ?_ ?_; rotate_left; (focus (intro _; go_simp; try with_reducible rfl)); simp only [Act.put, List.setIfInBounds_toArray, List.set_cons_zero, List.set_cons_succ]) | (refine Txt.tl_skip (by rfl) trivial ?_; simp only [Act.put, List.setIfInBounds_toArray, List.set_cons_zero, List.set_cons_succ]) | (refine Txt.tl_rowN (n := 38) (ty := 30) (by rfl) (by rfl) (by rfl) (HM.out.range 4 rfl) (by kernel_rfl) (he_len x) ?_; simp only [Act.put, List.setIfInBounds_toArray, List.set_cons_zero, List.set_cons_succ])))
                        refine Txt.tl_nil ?_
                        go_wp2
                        go_roundw
                        case rel => exact ⟨j + 1, _, by omega, rfl, rfl, fun hT => absurd ((HT1.out hT).1 rfl) H1.out, HM.out⟩
                        case measure => simp [intOf]; omega
                      · have hq2 : ((q1 : Int) == 0) = false := by rw [beq_eq_false_iff_ne]; omega
                        have H2 : Hid (q1 ≠ 0) := h2
                        clear h2
                        refine Txt.wp_region_text (fun _ => True) [0, 0, 0, 0, 1, 0, 0, 0, 4, 0, 0, 0, 0, 0, 0, 0, 0, 0, 0, 0, 0, 0] (by kernel_rfl) (by kernel_rfl) trivial ?_
                        (repeat (first | (refine Txt.tl_pure (v := ?_) (by rfl) ?_ ?_; rotate_left; (focus (intro _; go_simp; try with_reducible rfl)); simp only [Act.put, List.setIfInBounds_toArray, List.set_cons_zero, List.set_cons_succ]) | (refine Txt.tl_skip (by rfl) trivial ?_; simp only [Act.put, List.setIfInBounds_toArray, List.set_cons_zero, List.set_cons_succ]) | (refine Txt.tl_rowN (n := 38) (ty := 30) (by rfl) (by rfl) (by rfl) (HM.out.range 4 rfl) (by kernel_rfl) (he_len x) ?_; simp only [Act.put, List.setIfInBounds_toArray, List.set_cons_zero, List.set_cons_succ])))
                        refine Txt.tl_call Tryz.func35 (by kernel_rfl) (by kernel_rfl) (by rfl) (by rfl) (by rfl) (vs := #[.agg (he x).toArray, .slice (some ⟨g, 0, none⟩) j cv]) (HUj.out _ j HM.out.keep hjk g (Px.own_cut (HM.out.get 0 rfl) j hjk) (HM.out.get 1 rfl) (iat (HM.out.get 3 rfl))) ?_
                        rintro e w6 ⟨v6, rfl, n6⟩
                        obtain ⟨a6, c6, e6, _⟩ := n6.1.at
                        rw [Hq1.out] at e6
                        subst e6
                        have HM : Hid _ := HM.out.calm n6.2.1
                        clear n6
                        refine ⟨_, rfl, trivial, ?_⟩
                        simp only [Act.put, List.setIfInBounds_toArray, List.set_cons_zero, List.set_cons_succ]
                        (repeat (first | (refine Txt.tl_pure (v := ?_) (by rfl) ?_ ?_; rotate_left; (focus (intro _; go_simp; try with_reducible rfl)); simp only [Act.put, List.setIfInBounds_toArray, List.set_cons_zero, List.set_cons_succ]) | (refine Txt.tl_skip (by rfl) trivial ?_; simp only [Act.put, List.setIfInBounds_toArray, List.set_cons_zero, List.set_cons_succ]) | (refine Txt.tl_rowN (n := 38) (ty := 30) (by rfl) (by rfl) (by rfl) (HM.out.range 4 rfl) (by kernel_rfl) (he_len x) ?_; simp only [Act.put, List.setIfInBounds_toArray, List.set_cons_zero, List.set_cons_succ])))
                        refine Txt.tl_nil ?_
                        go_wp2
                        go_roundw
                        case rel => exact ⟨j + 1, _, by omega, rfl, rfl, fun hT => n11 ((HT1.out hT).2 H2.out), HM.out⟩
                        case measure => simp [intOf]; omega
                · obtain rfl : j = k := by omega
                  have Hl : Hid (K.length ≤ 1000000) := by show _ ≤ _; rw [HKl.out]; omega
                  go_wp2_with (first | ((with_reducible refine at_load 30 ?_); refine St.wl_load tyH (by rfl) rfl rfl (HM.out.range 4 rfl) (he_len x) ?_; simp only [Act.put, List.setIfInBounds_toArray, List.set_cons_zero, List.set_cons_succ]) | (refine St.wl_build slHe (by decide) rfl rfl (he_len x) rfl ?_; have HM : Hid _ := HM.out.alloc (.cells (he x).toArray 30) (by first | rfl | simp only [World.size_alloc]); simp only [Act.put, List.setIfInBounds_toArray, List.set_cons_zero, List.set_cons_succ]) | (refine St.wl_app1 slHe (by decide) rfl rfl rfl (HM.out.get 0 rfl) rfl (he_len x) (he_one x) (HM.out.get 5 rfl) Hl.out ?_; intro v3 w3 h1 k1 h3; have HM : Hid _ := HM.out.appR 0 rfl h1 k1 h3; clear h1 k1 h3; simp only [Act.put, List.setIfInBounds_toArray, List.set_cons_zero, List.set_cons_succ]))
                  all_goals
                    have HM2 : M (fun _ => False) w _ ([rows 30 38 he v3 (K ++ [x])] ++ [parsH K, ids (.slice a2 (selL H).length c2) (selL H)]) := HM.out.sub _ [0, 1, 3] (by decide) rfl
                    obtain ⟨e1, e2, e3, e4⟩ := HX.out
                    rw [← e1, ← e2, ← e3, ← e4] at HM2
                    have HM2 : Hid (M (fun _ => False) w _ ([rows 30 38 he v3 (K ++ [x])] ++ [parsH (K ++ [x])])) := add_parH HM2
                    clear e1 e2 e3 e4
                    first
                    | (go_roundw
                       case rel => exact ⟨j + 1, _, K ++ [x], by omega, by omega, rfl, rfl, (by rw [List.length_append, HKl.out]; rfl), HCx.out, HM2.out⟩
                       case measure => simp [intOf]; omega)
                    | (go_ret2
                       exact ⟨⟨_, K ++ [x], false, rfl, HM2.out, (by rw [List.length_append, HKl.out]; simp; omega), HCx.out, fun _ => tw_snoc (Classical.byContradiction fun hT => by have := HbT.out hT; simp_all)⟩⟩)
    · have hgo' : n ≤ k ∨ (k < n ∧ 10 ≤ k) := by omega
      clear hlt
      rcases hgo' with h | ⟨h, h'⟩
      all_goals
        go_wp2
        go_ret2
        exact ⟨_, K, true, rfl, HM.out, by rw [HKl.out]; exact hk10, HC.out, fun h => by cases h⟩
end Nx
end Go.Proofs.YtdpkklinpbmkfaaGreatDoor
