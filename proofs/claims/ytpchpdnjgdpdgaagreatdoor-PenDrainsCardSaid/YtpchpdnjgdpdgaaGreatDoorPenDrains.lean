/-
  'petrellaw18.PenDrains': headers, each behind others, that wait in any order, and no more than may: as soon as they are looked for, all are taken whose parents were taken ahead, each behind these; or two unlike ones of them have one id. For every input.
-/
import Derived.Test.YtpchpdnjgdpdgaaGreatDoorDr2
import Derived.Test.YtpchpdnjgdpdgaaGreatDoorPn9
import Derived.Test.YtpchpdnjgdpdgaaGreatDoorTie
import Derived.Test.YtpchpdnjgdpdgaaGreatDoorCards
import Derived.SevenTiedAt
import Derived.Stop.Joined
set_option linter.unusedVariables false
set_option linter.unusedSimpArgs false
namespace Go.Proofs.YtpchpdnjgdpdgaaGreatDoor
open Go.RowKit
namespace Mem
/-- A call's memory, seen from where the caller began. -/
theorem M.widen {F S : Nat → Prop} {w w1 w' : World} {l : List It} (h : M S w1 w' l) (k : Keep F w w1) (hs : ∀ j, S j → w.heap.size ≤ j) : M F w w' l :=
  ⟨h.all, h.dis, fun i x hi j hj => ⟨.inl (by
    rcases (h.rng i x hi j hj).1 with h1 | h1
    · have := k.size; omega
    · exact hs _ h1), (h.rng i x hi j hj).2⟩, k.trans' h.keep (fun _ _ h => h) (fun j hj e => by have := hs j e; omega)⟩
end Mem
namespace PenDrains
open Oct Ids Gn Hd Pn Px Pl Ru Nx Dr Go.ChangeShapes Go.WideShapes Go.ChangeAt
open Mem (M It blk ids rows)
theorem gd_of {w : World} {K : List Hh} {i : Nat} {L : List Wt} {q : Nat} (h : PutInv K i (L.map ky) q) (hin : ∀ x ∈ K, Hin w x) (hsz : ∀ x ∈ K, x.n ≤ 20 ∧ x.T.size ≤ 100) : ∀ x ∈ L, Gd x := by
  intro x hx
  obtain ⟨y, hy, hc, e⟩ := h.src (ky x) (List.mem_map_of_mem hx)
  unfold ky kx at e
  simp only [Prod.mk.injEq] at e
  obtain ⟨e1, e2, e3, e4, e5, e6, e7, e8, _⟩ := e
  have hn := (hin y hy).1.len
  have hs := hsz y hy
  refine ⟨by rw [e1, hn]; exact hs.1, by rw [e3]; omega, ?_, ?_⟩
  · rw [e1, e2, e3, e4, e5, e6, hn]; exact hc
  · rw [e1, e2, e3, e4, e5, e6, e7, e8, hn]; rfl
theorem less_len {w w' : World} {v : Value} {l m : List (List UInt8)} (h : New w w' v (IdL.lessL l m)) : ∃ a c, v = .slice a (IdL.lessL l m).length c ∧ Keep (fun _ => False) w w' := by
  obtain ⟨a, c, e, _, _⟩ := h.1.at
  exact ⟨a, c, e, h.2.1⟩
set_option maxRecDepth 100000 in
set_option maxHeartbeats 16000000 in
theorem walk (s : Opn.Sl HH) (w : World) (hT : Sha.TabF w ∧ Sha.TabK w) (hs : Opn.SlAt 38 layH factH w s) :
    Calls Tryz.prog 3 #[.slice s.a s.len s.cap] w fun e w' => e = .returned (.bool true) ∧ Below w.heap.size w w' := by
  obtain ⟨hA, hin⟩ := in_row hs
  obtain ⟨a, n, c, els⟩ := s
  simp only at hA hin ⊢
  generalize els.map toH = K at hA hin
  clear hs els
  have hnm := hA.most
  unfold maxLen at hnm
  have HF : Hid (Sha.TabF w) := hT.1
  have HK : Hid (Sha.TabK w) := hT.2
  have HA : Hid (St.At 38 he w a n K) := hA
  have HIn : Hid (∀ x ∈ K, Hin w x) := hin
  have HKn : Hid (K.length = n) := hA.len
  have HM : Hid (M (fun _ => False) w w []) := M.start _ w
  clear hT hA hin
  go_enter Tryz.func3, Tryz.ntmps3
  by_cases hn8 : n ≤ 8
  case neg =>
    have hn9 : 8 < (n : Int) := by omega
    go_wp2_with (first | (go_at_call 7; refine (pawake _ (HF.out.keep HM.out.keep (fun h => h)) (HK.out.keep HM.out.keep (fun h => h))).mono ?_; rintro e w9 ⟨rfl, k9⟩; have HM : Hid _ := HM.out.calm k9; clear k9))
    go_ret
    exact ⟨rfl, Keep.below HM.out.keep (Nat.le_refl _) (fun _ h => h.elim)⟩
  have hn9 : (n : Int) ≤ 8 := by omega
  go_wp2_with (first | (go_at_call 8; refine (pnew _).mono ?_; rintro e w1 ⟨rfl, h1, k1⟩; have HM : Hid _ := HM.out.add (x := penI w.heap.size (.slice none 0 0) [] 0) k1 h1 (fun k hk => by rcases hk with (hk | hk) | ⟨y, hy, _⟩; (have := lt_of_block h1.blk; omega); (simp [Value.ownBlock] at hk); (cases hy)); clear h1 k1))
  go_loopw [4, 5] (fun s4 s5 wr => ∃ (k q : Nat) (v : Value) (L : List Wt), k ≤ n ∧ q ≤ k ∧ s4 = .int .i64 q ∧ s5 = .int .i64 k ∧ PutInv K k (L.map ky) q ∧ (∀ (j : Nat) (y : Hh), j < k → K[j]? = some y → y.n ≤ 20 ∧ y.T.size ≤ 100) ∧ M (fun _ => False) w wr [penI w.heap.size v L 0]) (fun _ s5 _ => n - (intOf s5).toNat)
  case atStart => exact ⟨0, 0, _, [], Nat.zero_le _, Nat.le_refl _, by go_num, by go_num, PutInv.start K, fun j y hj => absurd hj (Nat.not_lt_zero _), HM.out⟩
  case round =>
    clear HM
    obtain ⟨k, q, v, L, hkn, hqk, rfl, rfl, hpi, hno, hM⟩ := hrel
    have HM : Hid _ := hM
    have HP : Hid (PutInv K k (L.map ky) q) := hpi
    have HNo : Hid (∀ (j : Nat) (y : Hh), j < k → K[j]? = some y → y.n ≤ 20 ∧ y.T.size ≤ 100) := hno
    clear hM hpi hno
    by_cases hlt : k < n
    · obtain ⟨x, hx⟩ : ∃ x, K[k]? = some x := ⟨_, List.getElem?_eq_getElem (by rw [HKn.out]; exact hlt)⟩
      obtain ⟨b1, o1, rfl, hb1, hr1⟩ : ∃ b off, a = some ⟨b, off, none⟩ ∧ b < w.heap.size ∧ ∀ i x, K[i]? = some x → w.rangeAt b (off + i * 38) (he x) := by rcases HA.out.lay with e | e; omega; exact e
      have R1 : Hid (wr.rangeAt b1 (o1 + k * 38) (he x)) := HM.out.keep.range hb1 (fun h => h) (hr1 k x hx)
      have d0 : wr.cell? ⟨b1, o1 + k * 38, none⟩ = some (.slice x.a x.n x.c) := R1.out 0 _ rfl
      have d2 : wr.cell? ⟨b1, o1 + k * 38 + 2, none⟩ = some (.string x.T) := R1.out 2 _ rfl
      have Hx : Hid (K[k]? = some x) := hx
      have Hok : Hid (Hin w x) := HIn.out x (List.mem_of_getElem? hx)
      have hxn := Hok.out.1.most
      have hxT := Hok.out.2
      unfold maxLen at hxT hxn
      obtain ⟨xa, hxa⟩ : ∃ t, x.a = t := ⟨_, rfl⟩
      obtain ⟨xn, hxn'⟩ : ∃ t, x.n = t := ⟨_, rfl⟩
      obtain ⟨xc, hxc⟩ : ∃ t, x.c = t := ⟨_, rfl⟩
      obtain ⟨xT, hxT'⟩ : ∃ t, x.T = t := ⟨_, rfl⟩
      rw [hxa, hxn', hxc] at d0
      rw [hxT'] at d2 hxT
      rw [hxn'] at hxn
      have Hn : Hid (x.n = xn) := hxn'
      have HTx : Hid (x.T = xT) := hxT'
      clear hr1 hx hb1 hxa hxn' hxc hxT'
      by_cases h1 : 20 < xn
      · go_wp2_with (first | (go_at_call 7; refine (pawake _ (HF.out.keep HM.out.keep (fun h => h)) (HK.out.keep HM.out.keep (fun h => h))).mono ?_; rintro e w9 ⟨rfl, k9⟩; have HM : Hid _ := HM.out.calm k9; clear k9))
        go_ret
        exact ⟨rfl, Keep.below HM.out.keep (Nat.le_refl _) (fun _ h => h.elim)⟩
      by_cases h2 : 100 < xT.size
      · go_wp2_with (first | (go_at_call 7; refine (pawake _ (HF.out.keep HM.out.keep (fun h => h)) (HK.out.keep HM.out.keep (fun h => h))).mono ?_; rintro e w9 ⟨rfl, k9⟩; have HM : Hid _ := HM.out.calm k9; clear k9))
        go_ret
        exact ⟨rfl, Keep.below HM.out.keep (Nat.le_refl _) (fun _ h => h.elim)⟩
      obtain ⟨p1, p2, p3⟩ := put_next HP.out (by omega) Hx.out 0
      obtain ⟨r, hr⟩ : ∃ r, rput (L.map ky) 0 x = r := ⟨_, rfl⟩
      have HPut : Hid (∀ w1, PenAt w1 w.heap.size v L 0 → Keep (fun _ => False) w w1 → Calls Tryz.prog 9 #[.pointer (some ⟨w.heap.size, 0, none⟩), .agg (he x).toArray, .int .i64 1] w1 fun e w' => e = .returned (.tuple #[idv r.id, .bool r.g, .int .i64 r.e]) ∧ ∃ v' L', PenTo w1 w' w.heap.size v L v' L' r.lost ∧ L'.map ky = r.K) := fun w1 hp hk => by
        have := pputK w1 x.a x.n x.c x.l x.G x.T x.A x.Q x.Z x.m 1 (Hok.out.1.calm hk) x.hm (by rw [Hn.out]; omega) Hok.out.2 (HF.out.keep hk (fun h => h)) (HK.out.keep hk (fun h => h)) w.heap.size v L 0 hp (by have := HP.out.len; rw [List.length_map] at this; omega) ⟨by omega, by omega⟩
        rw [← hr]
        exact this
      rw [hr] at p1 p2 p3
      have Hrl : Hid (r.id.length = 32) := by
        show _ = _
        rw [← hr]
        unfold rput pst
        split
        · split
          · rfl
          · rw [if_pos (by have := HP.out.len; omega)]; rfl
        · rfl
      clear hr
      obtain ⟨rid, rg, re, rK, rl⟩ := r
      simp only at p1 p2 p3 HPut Hrl
      subst p2
      have HP3 : Hid (PutInv K (k + 1) rK (if hck x = 0 then q + 1 else q)) := p3
      have HC : Hid (re = hck x) := p1
      have Hrm : Hid ((rid.map bv).toArray.size = 32) := by show _ = _; rw [List.size_toArray, List.length_map]; exact Hrl.out
      have HNx : Hid (∀ (j : Nat) (y : Hh), j < k + 1 → K[j]? = some y → y.n ≤ 20 ∧ y.T.size ≤ 100) := fun j y hj hy => by
        rcases Nat.lt_or_ge j k with h | h
        · exact HNo.out j y h hy
        · obtain rfl : j = k := by omega
          rw [Hx.out] at hy
          cases hy
          rw [Hn.out, HTx.out]
          omega
      clear p1 p3
      by_cases h0 : re = 0
      · have HP4 : Hid (PutInv K (k + 1) rK (q + 1)) := by have := HP3.out; rwa [if_pos (by rw [← HC.out]; exact h0)] at this
        subst h0
        go_wp2_with (first | ((with_reducible refine at_load 30 ?_); refine St.wl_load tyH (by rfl) rfl rfl R1.out (he_len x) ?_; simp only [Act.put, List.setIfInBounds_toArray, List.set_cons_zero, List.set_cons_succ]) | (go_at_call 9; refine (HPut.out _ (HM.out.get 0 rfl) HM.out.keep).mono ?_; rintro e w2 ⟨rfl, v2, L2, t2, k2⟩; have HM : Hid _ := Pn.M.pen HM.out 0 rfl t2; have Hk2 : Hid (L2.map ky = rK) := k2; clear t2 k2) | ((with_reducible refine Pl.at_alloc 28 ?_); refine St.wl_alloc tyI rfl rfl (by (try simp only [World.size_alloc]); rfl) ?_; simp only [Act.put, List.setIfInBounds_toArray, List.set_cons_zero, List.set_cons_succ]) | ((with_reducible refine Pl.at_store 28 ?_); refine St.wl_storeN (W := w2) tyI rfl rfl rfl rfl rfl (by (try simp only [World.size_alloc])) (show _ = Value.agg (rid.map bv).toArray from rfl) Hrm.out rfl (one_bv _) ?_; have HM : Hid _ := HM.out.alloc (.cells (rid.map bv).toArray 28) rfl))
        go_roundw
        case rel => exact ⟨k + 1, q + 1, _, L2, by omega, by omega, by go_num, by go_num, by rw [Hk2.out]; exact HP4.out, HNx.out, HM.out.take 1⟩
        case measure => simp [intOf]; omega
      · have HP4 : Hid (PutInv K (k + 1) rK q) := by have := HP3.out; rwa [if_neg (by rw [← HC.out]; exact h0)] at this
        have h0' : (re == 0) = false := by simpa using h0
        clear h0
        go_wp2_with (first | ((with_reducible refine at_load 30 ?_); refine St.wl_load tyH (by rfl) rfl rfl R1.out (he_len x) ?_; simp only [Act.put, List.setIfInBounds_toArray, List.set_cons_zero, List.set_cons_succ]) | (go_at_call 9; refine (HPut.out _ (HM.out.get 0 rfl) HM.out.keep).mono ?_; rintro e w2 ⟨rfl, v2, L2, t2, k2⟩; have HM : Hid _ := Pn.M.pen HM.out 0 rfl t2; have Hk2 : Hid (L2.map ky = rK) := k2; clear t2 k2) | ((with_reducible refine Pl.at_alloc 28 ?_); refine St.wl_alloc tyI rfl rfl (by (try simp only [World.size_alloc]); rfl) ?_; simp only [Act.put, List.setIfInBounds_toArray, List.set_cons_zero, List.set_cons_succ]) | ((with_reducible refine Pl.at_store 28 ?_); refine St.wl_storeN (W := w2) tyI rfl rfl rfl rfl rfl (by (try simp only [World.size_alloc])) (show _ = Value.agg (rid.map bv).toArray from rfl) Hrm.out rfl (one_bv _) ?_; have HM : Hid _ := HM.out.alloc (.cells (rid.map bv).toArray 28) rfl))
        go_roundw
        case rel => exact ⟨k + 1, q, _, L2, by omega, by omega, by go_num, by go_num, by rw [Hk2.out]; exact HP4.out, HNx.out, HM.out.take 1⟩
        case measure => simp [intOf]; omega
    · obtain rfl : k = n := by omega
      have hsz : ∀ x ∈ K, x.n ≤ 20 ∧ x.T.size ≤ 100 := fun x hx => by
        obtain ⟨j, hj⟩ := List.getElem?_of_mem hx
        exact HNo.out j x (by have := (List.getElem?_eq_some_iff.1 hj).1; rw [HKn.out] at this; exact this) hj
      have HSz : Hid (∀ x ∈ K, x.n ≤ 20 ∧ x.T.size ≤ 100) := hsz
      have HGd : Hid (∀ x ∈ L, Gd x) := gd_of HP.out HIn.out hsz
      have HL8 : Hid (L.length ≤ 8) := by show _ ≤ _; have := HP.out.len; rw [List.length_map] at this; omega
      have HFt : Hid (∀ j, foot w.heap.size v L j → w.heap.size ≤ j) := fun j hj => by
        have := (HM.out.rng 0 _ rfl j hj).1
        rcases this with h | h
        · exact h
        · exact h.elim
      have HDr : Hid (Calls Tryz.prog 10 #[.pointer (some ⟨w.heap.size, 0, none⟩), .slice none 0 0] wr (DrPost wr w.heap.size v L 0)) :=
        drained_any wr (HF.out.keep HM.out.keep (fun h => h)) (HK.out.keep HM.out.keep (fun h => h)) w.heap.size v L 0 (HM.out.get 0 rfl) HL8.out HGd.out (fun h => by have := HFt.out _ h; have := HF.out.1; omega) (fun h => by have := HFt.out _ h; have := HK.out.1; omega)
      clear hsz HNo
      go_wp2_with (first | (go_at_call 10; refine HDr.out.mono ?_; rintro e w3 ⟨v3, R, O, vo, vk, rfl, m3, hd, ht, hR, hO⟩; have HM : Hid _ := M.widen m3 HM.out.keep HFt.out; have HD : Hid (DrInv (L.map ky) (O.map ky) (R.map ky)) := hd; have HTx : Hid (tix (O.map fun x : Wt => x.id) (R.map ky) = none) := ht; have HR : Hid (∀ x ∈ R, x ∈ L) := hR; have HO : Hid (∀ x ∈ O, x ∈ L) := hO; obtain ⟨oa, oc, e1, _⟩ := (show St.Own _ 38 hv w3 vo O from HM.out.get 1 rfl).any; obtain ⟨ka, kc, e2, _⟩ := (show St.Own _ 32 eI w3 vk O from HM.out.get 2 rfl).any; subst e1 e2; clear m3 hd ht hR hO; obtain ⟨o, ho⟩ : ∃ o, O.length = o := ⟨_, rfl⟩; obtain ⟨rn, hrn⟩ : ∃ o, R.length = o := ⟨_, rfl⟩; have HOn : Hid (O.length = o) := ho; have HRn : Hid (R.length = rn) := hrn; rw [ho] at HM; rw [ho]; clear ho hrn; have hle : o + rn ≤ q := (by have h1 := HD.out.len; have h2 := HP.out.cnt; simp only [List.length_map] at h1 h2; rw [HOn.out, HRn.out] at h1; omega)) | (go_at_call 11; refine (plen _ w.heap.size v3 R 0 (PenP.at (show PenP _ w.heap.size v3 R L 0 from HM.out.get 0 rfl) HR.out) (by rw [HRn.out]; omega)).mono ?_; rw [HRn.out]; rintro e w4 ⟨rfl, rfl⟩))
      have HO8 : Hid (o ≤ 8) := (by omega : o ≤ 8)
      have HOs : Hid (∀ x ∈ O, x.n ≤ 20) := fun x hx => by
        have h1 := (HGd.out x (HO.out x hx)).l20
        have h2 := ((show PenP _ w.heap.size v3 R L 0 from HM.out.get 0 rfl).par x (HO.out x hx)).len
        omega
      have HKl : Hid (∀ w', M (fun _ => False) w w' [penP w.heap.size v3 R L 0, rH (.slice oa o oc) O, rI (.slice ka o kc) O] → At w' ka o (O.map fun x : Wt => x.id)) := fun w' h => at_ids (own_sl (show St.Own _ 32 eI w' (.slice ka o kc) O from h.get 2 rfl))
      have HKc : Hid (∀ w' j, j ≤ o → M (fun _ => False) w w' [penP w.heap.size v3 R L 0, rH (.slice oa o oc) O, rI (.slice ka o kc) O] → At w' ka j ((O.take j).map fun x : Wt => x.id)) := fun w' j hj h => at_ids ((own_sl (show St.Own _ 32 eI w' (.slice ka o kc) O from h.get 2 rfl)).cut j hj)
      have hokc : (o : Int) ≤ (kc : Int) := by
        have := (show St.Own _ 32 eI _ (.slice ka o kc) O from HM.out.get 2 rfl).own
        obtain ⟨_, hn | ⟨g, cap, cur, e, _, _, hlc, hcm, _⟩⟩ := this
        · have := hn.1; cases this; omega
        · cases e; have := HOn.out; omega
      have HM : Hid (M (fun _ => False) w _ [penP w.heap.size v3 R L 0, rH (.slice oa o oc) O, rI (.slice ka o kc) O]) := HM.out
      clear hle HDr HFt
      go_loopw [11, 12] (fun s11 s12 wr => ∃ (i : Nat), i ≤ o ∧ s11 = .bool true ∧ s12 = .int .i64 i ∧ M (fun _ => False) w wr [penP w.heap.size v3 R L 0, rH (.slice oa o oc) O, rI (.slice ka o kc) O]) (fun _ s12 _ => o - (intOf s12).toNat)
      case atStart => exact ⟨0, Nat.zero_le _, rfl, by go_num, HM.out⟩
      case round =>
        clear HM
        obtain ⟨i, hio, rfl, rfl, hM⟩ := hrel
        have HM : Hid _ := hM
        clear hM
        by_cases hlt2 : i < o
        · obtain ⟨x, hx⟩ : ∃ x, O[i]? = some x := ⟨_, List.getElem?_eq_getElem (by rw [HOn.out]; exact hlt2)⟩
          obtain ⟨g, e1⟩ : ∃ g, oa = some ⟨g, 0, none⟩ := by
            obtain ⟨_, hn | ⟨g, cap, cur, e, _⟩⟩ := (show St.Own _ 38 hv wr (.slice oa o oc) O from HM.out.get 1 rfl).own
            · have := hn.2; have := HOn.out; omega
            · cases e; exact ⟨_, rfl⟩
          subst e1
          have R2 := own_rng (show St.Own _ 38 hv wr (.slice (some ⟨g, 0, none⟩) o oc) O from HM.out.get 1 rfl) hx
          have d0 : wr.drew.cell? ⟨g, i * 38, none⟩ = some (.slice x.a x.n x.c) := R2 0 _ rfl
          have Hxm : Hid (x ∈ O) := List.mem_of_getElem? hx
          have HM : Hid _ := HM.out.drew
          have HA1 : Hid (At wr.drew x.a x.n x.l) := (show PenP _ w.heap.size v3 R L 0 from HM.out.get 0 rfl).par x (HO.out x Hxm.out)
          have HE : Hid (IdL.lessL x.l ((O.take i).map fun x : Wt => x.id) = []) := by
            show _ = _
            refine List.eq_nil_of_length_eq_zero ((less_nil _ _).2 fun y hy => ?_)
            have := HD.out.par i (ky x) (by rw [List.getElem?_map, hx]; rfl) y hy
            rwa [kid_ky, ← List.map_take] at this
          have HLs : Hid (Calls Tryz.prog 12 #[.slice x.a x.n x.c, .slice ka i kc] wr.drew fun e w' => ∃ a c, e = .returned (.slice a 0 c) ∧ Keep (fun _ => False) wr.drew w') := (xless_any wr.drew x.a ka x.n x.c i kc x.l _ HA1.out (HKc.out _ i (by omega) HM.out) (by have := HOs.out x Hxm.out; omega) (by have := HO8.out; omega)).mono fun e w' ⟨v, he, nv⟩ => by
            obtain ⟨a, c, e1, k1⟩ := less_len nv
            rw [HE.out] at e1
            exact ⟨a, c, by rw [he, e1]; rfl, k1⟩
          have hic : (i : Int) ≤ (kc : Int) := by omega
          clear hx R2
          go_wp2
          refine Txt.wp_region_text (fun _ => True) [0, 0, 0, 0, 0, 0, 1, 0, 0, 0, 4, 0, 0, 0, 0] (by kernel_rfl) (by kernel_rfl) trivial ?_
          (repeat (first | (refine Txt.tl_pure (v := ?_) (by rfl) ?_ ?_; rotate_left; (focus (intro _; go_simp; try with_reducible rfl)); simp only [Act.put, List.setIfInBounds_toArray, List.set_cons_zero, List.set_cons_succ]) | (refine Txt.tl_load (v := ?_) (by rfl) (by rfl) (by rfl) (by kernel_rfl) ?_ ?_; rotate_left; (focus assumption); simp only [Act.put, List.setIfInBounds_toArray, List.set_cons_zero, List.set_cons_succ]) | (refine Txt.tl_skip (by rfl) trivial ?_; simp only [Act.put, List.setIfInBounds_toArray, List.set_cons_zero, List.set_cons_succ])))
          refine Txt.tl_call Tryz.func12 (by kernel_rfl) (by kernel_rfl) (by rfl) (by rfl) (by rfl) (vs := #[.slice x.a x.n x.c, .slice ka i kc]) HLs.out ?_
          rintro e w5 ⟨a5, c5, rfl, k5⟩
          have HM : Hid _ := HM.out.calm k5
          clear k5
          refine ⟨_, rfl, trivial, ?_⟩
          simp only [Act.put, List.setIfInBounds_toArray, List.set_cons_zero, List.set_cons_succ]
          (repeat (first | (refine Txt.tl_pure (v := ?_) (by rfl) ?_ ?_; rotate_left; (focus (intro _; go_simp; try with_reducible rfl)); simp only [Act.put, List.setIfInBounds_toArray, List.set_cons_zero, List.set_cons_succ]) | (refine Txt.tl_load (v := ?_) (by rfl) (by rfl) (by rfl) (by kernel_rfl) ?_ ?_; rotate_left; (focus assumption); simp only [Act.put, List.setIfInBounds_toArray, List.set_cons_zero, List.set_cons_succ]) | (refine Txt.tl_skip (by rfl) trivial ?_; simp only [Act.put, List.setIfInBounds_toArray, List.set_cons_zero, List.set_cons_succ])))
          refine Txt.tl_nil ?_
          go_wp2
          go_roundw
          case rel => exact ⟨i + 1, by omega, rfl, by go_num, HM.out⟩
          case measure => simp [intOf]; omega
        · obtain rfl : o = i := by omega
          go_wp2
          go_loopw [11, 13] (fun s11 s13 wr => ∃ (i : Nat) (t : Bool), i ≤ k ∧ s11 = .bool t ∧ s13 = .int .i64 i ∧ (t = false → Tw K) ∧ M (fun _ => False) w wr [penP w.heap.size v3 R L 0, rH (.slice oa o oc) O, rI (.slice ka o kc) O]) (fun _ s13 _ => k - (intOf s13).toNat)
          case atStart => exact ⟨0, true, Nat.zero_le _, rfl, by go_num, (fun h => by cases h), HM.out⟩
          case round =>
            clear HM
            obtain ⟨i, t, hik, rfl, rfl, ht, hM⟩ := hrel
            have HM : Hid _ := hM
            have HTw : Hid (t = false → Tw K) := ht
            clear hM ht
            by_cases hlt3 : i < k
            · obtain ⟨x, hx⟩ : ∃ x, K[i]? = some x := ⟨_, List.getElem?_eq_getElem (by rw [HKn.out]; exact hlt3)⟩
              obtain ⟨b1, o1, rfl, hb1, hr1⟩ : ∃ b off, a = some ⟨b, off, none⟩ ∧ b < w.heap.size ∧ ∀ i x, K[i]? = some x → w.rangeAt b (off + i * 38) (he x) := by rcases HA.out.lay with e | e; omega; exact e
              have HB1 : Hid (b1 < w.heap.size) := hb1
              have HR1 : Hid (w.rangeAt b1 (o1 + i * 38) (he x)) := hr1 i x hx
              have R1 : Hid (wr.rangeAt b1 (o1 + i * 38) (he x)) := HM.out.keep.range hb1 (fun h => h) HR1.out
              have Hxm : Hid (x ∈ K) := List.mem_of_getElem? hx
              have hsx := HSz.out x Hxm.out
              have Hok : Hid (Hok w x) := ok_of (HIn.out x Hxm.out) (by omega)
              have Hx20 : Hid (x.n ≤ 20) := hsx.1
              have Hul : Hid ((hiv x).length = 32) := hiv_len x
              obtain ⟨u, hu⟩ : ∃ u, hiv x = u := ⟨_, rfl⟩
              obtain ⟨tt, htt⟩ : ∃ t, hck x = t := ⟨_, rfl⟩
              obtain ⟨m, hm⟩ : ∃ m, IdL.lessL x.l (O.map fun x : Wt => x.id) = m := ⟨_, rfl⟩
              have HI : Hid (∀ w', Keep (fun _ => False) w w' → Calls Tryz.prog 13 #[.agg (he x).toArray] w' fun e w'' => e = .returned (.tuple #[idv u, .int .i64 tt]) ∧ Keep (fun _ => False) w' w'') := fun w' k' => by
                have := hrident w' x (Hok.out.calm k')
                rwa [hu, htt] at this
              have HLs : Hid (∀ w', Keep (fun _ => False) w w' → At w' ka o (O.map fun x : Wt => x.id) → Calls Tryz.prog 12 #[.slice x.a x.n x.c, .slice ka o kc] w' fun e w'' => ∃ a c, e = .returned (.slice a m.length c) ∧ Keep (fun _ => False) w' w'') := fun w' k' h => (xless_any w' x.a ka x.n x.c o kc x.l _ (Hok.out.1.calm k') h (by have := Hx20.out; omega) (by have := HO8.out; omega)).mono fun e w'' ⟨v, he, nv⟩ => by
                obtain ⟨a, c, e1, k1⟩ := less_len nv
                rw [hm] at e1
                exact ⟨a, c, by rw [he, e1], k1⟩
              have HHs : Hid (∀ w', At w' ka o (O.map fun x : Wt => x.id) → Calls Tryz.prog 14 #[.slice ka o kc, idv u] w' fun e w'' => e = .returned (.bool (decide (u ∈ O.map fun x : Wt => x.id))) ∧ Keep (fun _ => False) w' w'') := fun w' h => xhas_any w' ka o kc _ h (by have := HO8.out; omega) u (by rw [← hu]; exact Hul.out)
              have HLeft : Hid (tt = 0 → m.length = 0 → decide (u ∈ O.map fun x : Wt => x.id) = false → Tw K) := fun h1 h2 h3 => by
                have hP : PutInv K K.length (L.map ky) q := by rw [HKn.out]; exact HP.out
                refine left_tw hP HD.out (by rw [kid_ky]; exact HTx.out) Hxm.out (htt.trans h1) (fun y hy => ?_) ?_
                · rw [kid_ky]
                  exact (less_nil _ _).1 (by rw [hm]; exact h2) y hy
                · rw [kid_ky, hu]
                  exact of_decide_eq_false h3
              have Hul2 : Hid (u.length = 32) := by show _ = _; rw [← hu]; exact Hul.out
              have Hum : Hid ((u.map bv).toArray.size = 32) := by show _ = _; rw [List.size_toArray, List.length_map]; exact Hul2.out
              obtain ⟨ml, hml⟩ : ∃ q, m.length = q := ⟨_, rfl⟩
              obtain ⟨hs, hhs⟩ : ∃ q, decide (u ∈ O.map fun x : Wt => x.id) = q := ⟨_, rfl⟩
              rw [hml] at HLs HLeft
              rw [hhs] at HHs HLeft
              clear hr1 hx hb1 hsx hu htt hm hml hhs
              by_cases h0 : tt = 0
              · subst h0
                by_cases h1 : ml = 0
                · subst h1
                  cases hs with
                  | false =>
                    go_wp2_with (first | ((with_reducible refine at_load 30 ?_); refine St.wl_load tyH (by rfl) rfl rfl R1.out (he_len x) ?_; simp only [Act.put, List.setIfInBounds_toArray, List.set_cons_zero, List.set_cons_succ]) | (go_at_call 13; refine (HI.out _ HM.out.keep).mono ?_; rintro e w5 ⟨rfl, k5⟩; have HM : Hid _ := HM.out.calm k5; clear k5) | ((with_reducible refine Pl.at_alloc 28 ?_); refine St.wl_alloc tyI rfl rfl (by (try simp only [World.size_alloc]); rfl) ?_; simp only [Act.put, List.setIfInBounds_toArray, List.set_cons_zero, List.set_cons_succ]) | ((with_reducible refine Pl.at_store 28 ?_); refine St.wl_storeN (W := w5) tyI rfl rfl rfl rfl rfl (by (try simp only [World.size_alloc])) (show _ = Value.agg (u.map bv).toArray from rfl) Hum.out rfl (one_bv _) ?_; have HM : Hid _ := HM.out.alloc (.cells (u.map bv).toArray 28) rfl; have d0 : World.cell? _ ⟨b1, o1 + i * 38, none⟩ = some (.slice x.a x.n x.c) := (HM.out.keep.range HB1.out (fun h => h) HR1.out) 0 _ rfl) | (go_at_call 12; refine (HLs.out _ HM.out.keep (HKl.out _ (HM.out.take 3))).mono ?_; rintro e w6 ⟨a6, c6, rfl, k6⟩; have HM : Hid _ := HM.out.calm k6; clear k6) | ((with_reducible refine at_load 28 ?_); refine wl_loadG (by rfl) rfl rfl Hul2.out (HM.out.range 3 rfl) ?_; simp only [Act.put, List.setIfInBounds_toArray, List.set_cons_zero, List.set_cons_succ]) | (go_at_call 14; refine (HHs.out _ (HKl.out _ (HM.out.take 3))).mono ?_; rintro e w7 ⟨rfl, k7⟩; have HM : Hid _ := HM.out.calm k7; clear k7))
                    go_roundw
                    case rel => exact ⟨i + 1, false, by omega, rfl, by go_num, fun _ => (by first | exact HLeft.out | exact HLeft.out (by trivial) (by trivial) (by trivial)), HM.out.take 3⟩
                    case measure => simp [intOf]; omega
                  | true =>
                    go_wp2_with (first | ((with_reducible refine at_load 30 ?_); refine St.wl_load tyH (by rfl) rfl rfl R1.out (he_len x) ?_; simp only [Act.put, List.setIfInBounds_toArray, List.set_cons_zero, List.set_cons_succ]) | (go_at_call 13; refine (HI.out _ HM.out.keep).mono ?_; rintro e w5 ⟨rfl, k5⟩; have HM : Hid _ := HM.out.calm k5; clear k5) | ((with_reducible refine Pl.at_alloc 28 ?_); refine St.wl_alloc tyI rfl rfl (by (try simp only [World.size_alloc]); rfl) ?_; simp only [Act.put, List.setIfInBounds_toArray, List.set_cons_zero, List.set_cons_succ]) | ((with_reducible refine Pl.at_store 28 ?_); refine St.wl_storeN (W := w5) tyI rfl rfl rfl rfl rfl (by (try simp only [World.size_alloc])) (show _ = Value.agg (u.map bv).toArray from rfl) Hum.out rfl (one_bv _) ?_; have HM : Hid _ := HM.out.alloc (.cells (u.map bv).toArray 28) rfl; have d0 : World.cell? _ ⟨b1, o1 + i * 38, none⟩ = some (.slice x.a x.n x.c) := (HM.out.keep.range HB1.out (fun h => h) HR1.out) 0 _ rfl) | (go_at_call 12; refine (HLs.out _ HM.out.keep (HKl.out _ (HM.out.take 3))).mono ?_; rintro e w6 ⟨a6, c6, rfl, k6⟩; have HM : Hid _ := HM.out.calm k6; clear k6) | ((with_reducible refine at_load 28 ?_); refine wl_loadG (by rfl) rfl rfl Hul2.out (HM.out.range 3 rfl) ?_; simp only [Act.put, List.setIfInBounds_toArray, List.set_cons_zero, List.set_cons_succ]) | (go_at_call 14; refine (HHs.out _ (HKl.out _ (HM.out.take 3))).mono ?_; rintro e w7 ⟨rfl, k7⟩; have HM : Hid _ := HM.out.calm k7; clear k7))
                    go_roundw
                    case rel => exact ⟨i + 1, t, by omega, rfl, by go_num, HTw.out, HM.out.take 3⟩
                    case measure => simp [intOf]; omega
                · have h2 : 0 < ml := by omega
                  clear h1
                  go_wp2_with (first | ((with_reducible refine at_load 30 ?_); refine St.wl_load tyH (by rfl) rfl rfl R1.out (he_len x) ?_; simp only [Act.put, List.setIfInBounds_toArray, List.set_cons_zero, List.set_cons_succ]) | (go_at_call 13; refine (HI.out _ HM.out.keep).mono ?_; rintro e w5 ⟨rfl, k5⟩; have HM : Hid _ := HM.out.calm k5; clear k5) | ((with_reducible refine Pl.at_alloc 28 ?_); refine St.wl_alloc tyI rfl rfl (by (try simp only [World.size_alloc]); rfl) ?_; simp only [Act.put, List.setIfInBounds_toArray, List.set_cons_zero, List.set_cons_succ]) | ((with_reducible refine Pl.at_store 28 ?_); refine St.wl_storeN (W := w5) tyI rfl rfl rfl rfl rfl (by (try simp only [World.size_alloc])) (show _ = Value.agg (u.map bv).toArray from rfl) Hum.out rfl (one_bv _) ?_; have HM : Hid _ := HM.out.alloc (.cells (u.map bv).toArray 28) rfl; have d0 : World.cell? _ ⟨b1, o1 + i * 38, none⟩ = some (.slice x.a x.n x.c) := (HM.out.keep.range HB1.out (fun h => h) HR1.out) 0 _ rfl) | (go_at_call 12; refine (HLs.out _ HM.out.keep (HKl.out _ (HM.out.take 3))).mono ?_; rintro e w6 ⟨a6, c6, rfl, k6⟩; have HM : Hid _ := HM.out.calm k6; clear k6) | ((with_reducible refine at_load 28 ?_); refine wl_loadG (by rfl) rfl rfl Hul2.out (HM.out.range 3 rfl) ?_; simp only [Act.put, List.setIfInBounds_toArray, List.set_cons_zero, List.set_cons_succ]) | (go_at_call 14; refine (HHs.out _ (HKl.out _ (HM.out.take 3))).mono ?_; rintro e w7 ⟨rfl, k7⟩; have HM : Hid _ := HM.out.calm k7; clear k7))
                  go_roundw
                  case rel => exact ⟨i + 1, t, by omega, rfl, by go_num, HTw.out, HM.out.take 3⟩
                  case measure => simp [intOf]; omega
              · have h0' : (tt == 0) = false := by simpa using h0
                clear h0
                go_wp2_with (first | ((with_reducible refine at_load 30 ?_); refine St.wl_load tyH (by rfl) rfl rfl R1.out (he_len x) ?_; simp only [Act.put, List.setIfInBounds_toArray, List.set_cons_zero, List.set_cons_succ]) | (go_at_call 13; refine (HI.out _ HM.out.keep).mono ?_; rintro e w5 ⟨rfl, k5⟩; have HM : Hid _ := HM.out.calm k5; clear k5) | ((with_reducible refine Pl.at_alloc 28 ?_); refine St.wl_alloc tyI rfl rfl (by (try simp only [World.size_alloc]); rfl) ?_; simp only [Act.put, List.setIfInBounds_toArray, List.set_cons_zero, List.set_cons_succ]) | ((with_reducible refine Pl.at_store 28 ?_); refine St.wl_storeN (W := w5) tyI rfl rfl rfl rfl rfl (by (try simp only [World.size_alloc])) (show _ = Value.agg (u.map bv).toArray from rfl) Hum.out rfl (one_bv _) ?_; have HM : Hid _ := HM.out.alloc (.cells (u.map bv).toArray 28) rfl; have d0 : World.cell? _ ⟨b1, o1 + i * 38, none⟩ = some (.slice x.a x.n x.c) := (HM.out.keep.range HB1.out (fun h => h) HR1.out) 0 _ rfl) | (go_at_call 12; refine (HLs.out _ HM.out.keep (HKl.out _ (HM.out.take 3))).mono ?_; rintro e w6 ⟨a6, c6, rfl, k6⟩; have HM : Hid _ := HM.out.calm k6; clear k6) | ((with_reducible refine at_load 28 ?_); refine wl_loadG (by rfl) rfl rfl Hul2.out (HM.out.range 3 rfl) ?_; simp only [Act.put, List.setIfInBounds_toArray, List.set_cons_zero, List.set_cons_succ]) | (go_at_call 14; refine (HHs.out _ (HKl.out _ (HM.out.take 3))).mono ?_; rintro e w7 ⟨rfl, k7⟩; have HM : Hid _ := HM.out.calm k7; clear k7))
                go_roundw
                case rel => exact ⟨i + 1, t, by omega, rfl, by go_num, HTw.out, HM.out.take 3⟩
                case measure => simp [intOf]; omega
            · obtain rfl : i = k := by omega
              cases t with
              | true =>
                go_wp2_with (first | (go_at_call 7; refine (pawake _ (HF.out.keep HM.out.keep (fun h => h)) (HK.out.keep HM.out.keep (fun h => h))).mono ?_; rintro e w9 ⟨rfl, k9⟩; have HM : Hid _ := HM.out.calm k9; clear k9))
                go_ret
                exact ⟨rfl, Keep.below HM.out.keep (Nat.le_refl _) (fun _ h => h.elim)⟩
              | false =>
                have HT2 : Hid (Calls Tryz.prog 15 #[.slice a i c] wr fun e w' => e = .returned (.bool true) ∧ Keep (fun _ => False) wr w') := (twins_any wr a i c K (HA.out.calm HM.out.keep) (fun x hx => ok_of ⟨(HIn.out x hx).1.calm HM.out.keep, (HIn.out x hx).2⟩ (by have := (HSz.out x hx).1; omega)) (by omega)).mono fun e w' ⟨t, he, k2, ht⟩ => by
                  obtain rfl : t = true := (by cases t; exact absurd (HTw.out rfl) (ht rfl); rfl)
                  exact ⟨he, k2⟩
                go_wp2_with (first | (go_at_call 15; refine HT2.out.mono ?_; rintro e w6 ⟨rfl, k6⟩; have HM : Hid _ := HM.out.calm k6; clear k6) | (go_at_call 7; refine (pawake _ (HF.out.keep HM.out.keep (fun h => h)) (HK.out.keep HM.out.keep (fun h => h))).mono ?_; rintro e w9 ⟨rfl, k9⟩; have HM : Hid _ := HM.out.calm k9; clear k9))
                go_ret
                exact ⟨rfl, Keep.below HM.out.keep (Nat.le_refl _) (fun _ h => h.elim)⟩
theorem rdHl : Opn.Rd Tryz.prog 22 1 (fun x : Opn.Sl HH => [x.val]) (Opn.SlAt 38 layH factH) (fun x => (x.els.map fun x => x.2.2.1.size).sum + 1) :=
  Opn.rd_slice Tryz.underlying22 (by kernel_rfl) (by omega) rdH
set_option maxRecDepth 100000 in
theorem own : ownKnob Tryz.prog.godebug = none := by kernel_rfl
set_option maxRecDepth 100000 in
theorem laidOut : laidOutB Tryz.prog = true := by kernel_rfl
set_option maxRecDepth 100000 in
theorem contract (H : Type) (enc : TypeId × Value → H) (W : World) (base : Nat) (args : Array Value) (ds gs : List (DataW H)) (before : List MemPlace)
    (hval : ∀ (j : Nat) t v, Tryz.f3.params[j]? = some t → args[j]? = some v → Value.okWide Tryz.prog W .any base t v)
    (hW : DataW.Whole enc Tryz.prog Tryz.f3.params.toList Rows.penDrainsSpec.vars false W args.toList ds gs before) (hL : laidMetH Tryz.prog Rows.penDrainsRow.laid W) :
    Calls Tryz.prog 3 args W fun e W' => ∃ v, e = .returned v ∧ Rows.penDrainsSpec.post enc Tryz.prog Tryz.f3 false true false false W args v W' := by
  have hW' := hW
  have hTab := Lad.sha_of hL
  obtain ⟨p, q, hA0, hV, rfl, hfz, hnd⟩ := hW
  have hA : DataW.TrodAll enc Tryz.prog W 0 (fun _ => true) true Tryz.f3.params.toList args.toList ds p := hA0
  rw [Tryz.params3] at hA hval
  obtain ⟨rfl, rfl⟩ := trodVars_none hV
  obtain ⟨v0, vs0, d0, ds0, p0, q0, hargs, rfl, rfl, h0, r0⟩ := trodAll_cons hA
  obtain ⟨rfl, rfl, rfl⟩ := trodAll_nil r0
  obtain rfl : args = #[v0] := by cases args; simp_all
  obtain ⟨s, rfl, hs, _⟩ := Opn.open_sl Tryz.underlying22 rdHl (hval 0 _ v0 rfl rfl) h0
  refine (walk s W hTab hs).mono fun e W' ⟨he, bel⟩ => ?_
  subst he
  exact ⟨_, rfl, Opn.law_post laidOut (by kernel_rfl) rfl Tryz.underlying4 rfl rfl hW' bel⟩
set_option maxRecDepth 100000 in
theorem lifted (os : Os) (started : os.Started) (H : Type) (enc : TypeId × Value → H) :
    ReturnsInHanded {} Tryz.checked os 3 .any (fun w args => (Rows.penDrainsSpec.pre enc Tryz.prog Tryz.f3 [] false w args ∧ laidMetH Tryz.prog Rows.penDrainsRow.laid w) ∧ sizedMet enc Tryz.prog Tryz.f3 (OpenSpec.ofChange Rows.penDrainsSpec) false w args)
      (Rows.penDrainsSpec.post enc Tryz.prog Tryz.f3 false true false false) := by
  refine returnsInHanded_of_change_and (C := Tryz.checked) (X := fun w _ => laidMetH Tryz.prog Rows.penDrainsRow.laid w) (fun _ _ _ hh h => h.of_heap hh) own started (by kernel_rfl) Tryz.func3
    (ChangeSpec.witness_shaped (enc := enc) (C := Tryz.checked) (os := os) (X := fun w _ => laidMetH Tryz.prog Rows.penDrainsRow.laid w) false (World.laidAll Tryz.prog os Rows.penDrainsRow.laid) #[.slice none 0 0] 8 (World.laidAll_os _ _ _)
      (World.shaped_of_ZipB (by kernel_rfl) (by kernel_rfl)) (by kernel_rfl) (by kernel_rfl) (by kernel_rfl)
      (by rw [MakeChecks.laidMetH_plain _ _ _ (by kernel_rfl)]; exact laidMet_laidAll _ (by kernel_rfl) (by kernel_rfl))) ?_
  intro W base args ds gs before hval0 hW _ _ hL _
  exact contract H enc W base args ds gs before hval0 hW hL
theorem over : Rows.penDrainsRow.holds Tryz.pinned (OpenSpec.ofChange Rows.penDrainsSpec) :=
  OpenClaim.holds_of_wide 3 Tryz.f3 rfl rfl rfl rfl rfl rfl rfl ⟨rfl, rfl, rfl, rfl, rfl⟩ rfl rfl rfl rfl rfl (by kernel_rfl) Tryz.func3 (by kernel_rfl)
    (of_decide_eq_true (by kernel_rfl)) (by unfold Func.isWrapper; first | (rw [if_pos (by decide +kernel)]; kernel_rfl) | (rw [if_neg (by decide +kernel)]; exact ⟨rfl, rfl⟩))
    (fun os started H enc _ => lifted os started H enc)
theorem proved : Rows.PenDrainsCardSaid :=
  Claim7.holds_tied_plain_at .later [] [.data, .data] true _ false over (fun _ h => by cases h) (by kernel_rfl) (fun _ h => by cases h) penDrains_row_tie rfl ⟨rfl, rfl⟩ (by kernel_rfl) rfl
    (fun f fn hf hfn => by
      obtain rfl : f = 3 := Option.some.inj ((show Tryz.prog.funcNamed "petrel/petrellaw18.PenDrains" = some 3 by kernel_rfl).symm.trans hf) |>.symm
      obtain rfl : fn = Tryz.f3 := (Option.some.inj (Tryz.func3.symm.trans hfn)).symm
      exact ⟨by kernel_rfl, fun j t ht => by
        rw [Tryz.params3] at ht
        have hm : t ∈ [22] := by simpa using Array.mem_of_getElem? ht
        have hall : ([22].all fun u => !Tryz.prog.wantsStandIn u) = true := by kernel_rfl
        exact (show Tryz.prog.wantsStandIn t = false by simpa using List.all_eq_true.1 hall t hm)⟩)
    (by kernel_rfl)
end PenDrains
end Go.Proofs.YtpchpdnjgdpdgaaGreatDoor
