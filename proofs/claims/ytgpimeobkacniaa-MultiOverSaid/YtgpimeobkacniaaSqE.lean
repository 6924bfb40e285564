/-
  seq.ids, seq.deleted: the keys of a map, rising.
-/
import Derived.Test.YtgpimeobkacniaaSqD
import Derived.Maps.RangeWalk
set_option linter.unusedVariables false
set_option linter.unusedSimpArgs false
namespace Go.Proofs.Ytgpimeobkacniaa
open Go.RowKit
namespace Sq
open Oct Ids Mp
open Mem (M It blk ids rows)
/-- What both come to. -/
structure KeyPost (w : World) (b bn bb bg : Nat) (N : Nds) (B : Bhs) (G l : List Wd) (e : Ending) (w' : World) : Prop where
  ex : ∃ v, e = .returned v ∧ M (foot b bn bb bg B) w w' [sqI b bn bb bg N B G, ids v l]
theorem own_idat {w : World} {a : Option Addr} {n c : Nat} {els : List Wd} (h : Ids.Own w (.slice a n c) els) : At w a n els := by
  obtain ⟨a', c', e, h1, _⟩ := h.at
  cases e
  exact h1
theorem it_key {w : World} {r b : Nat} {D todo : List (Wd × Value)} {cur : Option (Wd × Value)} (i : Iter okI idv w r b D todo cur) {dn : List Wd} {l1 l2 : List (Wd × Value)} {p : Wd × Value} (hP : (dn ++ (l1 ++ p :: l2).map (·.1)).Perm (D.map (·.1))) : p.1.length = 32 := by
  exact i.is.ok _ (hP.mem_iff.1 (by simp))
theorem footS {b bn bb bg : Nat} {N : Nds} {B : Bhs} {G : List Wd} {k : Nat} (hk : foot b bn bb bg B k) : ∃ (i : Nat) (y : It), (sqit b bn bb bg N B G)[i]? = some y ∧ y.foot k := by
  rcases hk with (hk | hk | hk | hk) | hk
  · exact ⟨0, _, rfl, hk⟩
  · exact ⟨1, _, rfl, hk⟩
  · exact ⟨2, _, rfl, hk⟩
  · exact ⟨3, _, rfl, hk⟩
  · exact ⟨4, _, rfl, hk⟩
theorem packS {F : Nat → Prop} {w0 w : World} {b bn bb bg : Nat} {N : Nds} {B : Bhs} {G : List Wd} {y : It} (h : M F w0 w ([y] ++ sqit b bn bb bg N B G)) : M F w0 w [sqI b bn bb bg N B G, y] :=
  (pack h (sqI b bn bb bg N B G) (mkS (h.sub (sqit b bn bb bg N B G) [1, 2, 3, 4, 5] (by decide) rfl)) (fun k hk => footS hk)).sub _ [1, 0] (by decide) rfl
set_option maxRecDepth 100000 in
set_option maxHeartbeats 8000000 in
theorem sids_any (w : World) (b bn bb bg : Nat) (N : Nds) (B : Bhs) (G : List Wd) (h : SqAt w b bn bb bg N B G) (hN : N.length ≤ 1000) (l : List Wd) (hl : ∀ K : List Wd, (∀ u, u ∈ K ↔ u ∈ N.map (·.1)) → IdL.setL K = l) :
    Calls Try.prog 75 #[.pointer (some ⟨b, 0, none⟩)] w (KeyPost w b bn bb bg N B G l) := by
  have HLs : Hid (∀ K : List Wd, (∀ u, u ∈ K ↔ u ∈ N.map (·.1)) → IdL.setL K = l) := hl
  have HNl : Hid ((dN N).length ≤ 1000) := by show _ ≤ _; unfold dN; rw [List.length_map]; exact hN
  have HKs : Hid ((dN N).map (·.1) = N.map (·.1)) := by show _ = _; unfold dN; rw [List.map_map]; rfl
  have HM : Hid (M (foot b bn bb bg B) w w [blk b (sc bn bb bg), mp okI idv bn (dN N), mp okI idv bb (dB B), mp okI idv bg (dG G), beh B, ids (.slice none 0 0) []]) := h.all.nilI
  have c0 := h.cells.1
  clear h hN hl
  go_enter Try.func75, Try.ntmps75
  go_wp2_with (first | (at_range; refine Mp.wl_range (ok := okI) (enc := idv) Try.underlying93 rfl rfl rfl (HM.out.get 1 rfl) ?_; intro w1 i1 k1 z1; have HM : Hid _ := M.toItr HM.out 1 rfl i1 k1 z1; clear i1 k1 z1; simp only [Act.put, List.setIfInBounds_toArray, List.set_cons_zero, List.set_cons_succ]))
  go_loopw [3] (fun s3 wr => ∃ (done : List Wd) (todo : List (Wd × Value)) (cur : Option (Wd × Value)) (v : Value), s3 = v ∧ M (foot b bn bb bg B) w wr ([blk b (sc bn bb bg), mp okI idv bn (dN N), mp okI idv bb (dB B), mp okI idv bg (dG G), beh B, ids v done].set 1 (itr okI idv w.heap.size bn (dN N) todo cur)) ∧ (done ++ todo.map (·.1)).Perm ((dN N).map (·.1))) (fun s3 _ => 1000 - lnv s3)
  case atStart => exact ⟨[], _, _, _, rfl, HM.out, List.Perm.refl _⟩
  case round =>
    clear HM c0
    obtain ⟨done, todo, cur, v, e1, hM, hP⟩ := hrel
    replace e1 := e1.symm
    subst e1
    have HM : Hid _ := hM
    have HP : Hid _ := hP
    obtain ⟨va, vc, e1, _⟩ := (show Ids.Own wr v done from HM.out.get 5 rfl).at
    subst e1
    have HLd : Hid (done.length + todo.length ≤ 1000) := by
      show _ ≤ _
      have := hP.length_eq
      rw [List.length_append, List.length_map, List.length_map] at this
      rw [this]
      exact HNl.out
    obtain ⟨q, hq⟩ : ∃ q, done.length = q := ⟨_, rfl⟩
    have Hq : Hid (done.length = q) := hq
    rw [hq] at HM ⊢
    clear hM hP
    have hq1 : q ≤ 1000 := by have := HLd.out; omega
    clear hq
    cases todo with
    | nil =>
      have HE : Hid (IdL.setL done = l) := HLs.out done (fun u => by
        have := HP.out.mem_iff (a := u)
        rw [List.map_nil, List.append_nil, HKs.out] at this
        exact this)
      go_wp2_with (first | (at_next; refine Mp.wl_next rfl rfl rfl (HM.out.get 1 rfl) (fun _ => ?_) (fun l1 p l2 w' e => by cases l1 <;> cases e); simp only [Act.put, List.setIfInBounds_toArray, List.set_cons_zero, List.set_cons_succ]) | (go_at_call 57; refine (set_any _ va q vc done (own_idat (HM.out.get 5 rfl)) (by omega)).mono ?_; rintro e w2 ⟨v2, rfl, o2, k2, f2⟩; rw [HE.out] at o2; have HM : Hid _ := HM.out.add (x := ids v2 l) k2 o2 (fun k hk => ⟨f2 k hk, o2.lt hk⟩); clear o2 k2 f2))
      go_ret
      have h9 := M.ofItr HM.out 1 rfl
      exact ⟨_, rfl, packS (h9.sub _ [6, 0, 1, 2, 3, 4] (by decide) rfl)⟩
    | cons p0 todo0 =>
      go_wp2_with (first | (at_next; refine Mp.wl_next rfl rfl rfl (HM.out.get 1 rfl) (fun e => by cases e) ?_; intro l1 p l2 w3 e3 i3 k3 z3; have HU : Hid (p.1.length = 32) := it_key i3 (by rw [← e3]; exact HP.out); have HUs : Hid ((p.1.map bv).toArray.size = 32) := (by show _ = _; rw [List.size_toArray, List.length_map]; exact HU.out); have HE3 : Hid _ := e3; have HM : Hid _ := M.stepItr HM.out 1 rfl i3 k3; clear e3 i3 k3 z3; simp only [Act.put, List.setIfInBounds_toArray, List.set_cons_zero, List.set_cons_succ]) | (refine Mp.wl_entry rfl rfl rfl (HM.out.get 1 rfl) ?_; simp only [Act.put, List.setIfInBounds_toArray, List.set_cons_zero, List.set_cons_succ]) | ((with_reducible refine at_alloc 35 ?_); refine St.wl_alloc tyI rfl rfl (by (try simp only [World.size_alloc]); rfl) ?_; simp only [Act.put, List.setIfInBounds_toArray, List.set_cons_zero, List.set_cons_succ]) | ((with_reducible refine at_store 35 ?_); refine St.wl_storeN (W := w3) tyI rfl rfl rfl rfl rfl (by (try simp only [World.size_alloc])) (show _ = Value.agg (p.1.map bv).toArray from rfl) HUs.out rfl (one_bv _) ?_; have HM : Hid _ := HM.out.alloc (.cells (p.1.map bv).toArray 35) rfl) | ((with_reducible refine at_load 35 ?_); refine Ids.wl_load rfl rfl rfl HU.out (HM.out.range 6 rfl) ?_; simp only [Act.put, List.setIfInBounds_toArray, List.set_cons_zero, List.set_cons_succ]) | (refine Ids.wl_build rfl rfl HU.out rfl ?_; have HM : Hid _ := HM.out.alloc (.cells (p.1.map bv).toArray 35) rfl; simp only [Act.put, List.setIfInBounds_toArray, List.set_cons_zero, List.set_cons_succ]) | (refine Ids.wl_app1 rfl rfl rfl (HM.out.get 5 rfl) rfl HU.out (HM.out.get 7 rfl) (by have := Hq.out; omega) ?_; intro v4 w4 h4 k4 g4; have HM : Hid _ := HM.out.appI 5 rfl h4 k4 g4; clear h4 k4 g4; simp only [Act.put, List.setIfInBounds_toArray, List.set_cons_zero, List.set_cons_succ]))
      go_roundw
      case rel =>
        refine ⟨done ++ [p.1], l1 ++ l2, some p, v4, rfl, HM.out.take 6, ?_⟩
        have h8 := HP.out
        rw [HE3.out] at h8
        refine List.Perm.trans ?_ h8
        simp only [List.map_append, List.map_cons, List.append_assoc, List.singleton_append]
        exact List.Perm.append_left _ List.perm_middle.symm
      case measure =>
        obtain ⟨a4, c4, e4, _⟩ := (show Ids.Own _ v4 (done ++ [p.1]) from HM.out.get 5 rfl).at
        subst e4
        have h1 := Hq.out
        have h2 := HLd.out
        rw [List.length_cons] at h2
        simp [lnv]
        omega
set_option maxRecDepth 100000 in
set_option maxHeartbeats 8000000 in
theorem sgone_any (w : World) (b bn bb bg : Nat) (N : Nds) (B : Bhs) (G : List Wd) (h : SqAt w b bn bb bg N B G) (hG : G.length ≤ 1000) (l : List Wd) (hl : ∀ K : List Wd, (∀ u, u ∈ K ↔ u ∈ G) → IdL.setL K = l) :
    Calls Try.prog 76 #[.pointer (some ⟨b, 0, none⟩)] w (KeyPost w b bn bb bg N B G l) := by
  have HLs : Hid (∀ K : List Wd, (∀ u, u ∈ K ↔ u ∈ G) → IdL.setL K = l) := hl
  have HNl : Hid ((dG G).length ≤ 1000) := by show _ ≤ _; unfold dG; rw [List.length_map]; exact hG
  have HKs : Hid ((dG G).map (·.1) = G) := by show _ = _; unfold dG; rw [List.map_map]; exact List.map_id G
  have HM : Hid (M (foot b bn bb bg B) w w [blk b (sc bn bb bg), mp okI idv bn (dN N), mp okI idv bb (dB B), mp okI idv bg (dG G), beh B, ids (.slice none 0 0) []]) := h.all.nilI
  have c0 := h.cells.2.2
  clear h hG hl
  go_enter Try.func76, Try.ntmps76
  go_wp2_with (first | (at_range; refine Mp.wl_range (ok := okI) (enc := idv) Try.underlying73 rfl rfl rfl (HM.out.get 3 rfl) ?_; intro w1 i1 k1 z1; have HM : Hid _ := M.toItr HM.out 3 rfl i1 k1 z1; clear i1 k1 z1; simp only [Act.put, List.setIfInBounds_toArray, List.set_cons_zero, List.set_cons_succ]))
  go_loopw [3] (fun s3 wr => ∃ (done : List Wd) (todo : List (Wd × Value)) (cur : Option (Wd × Value)) (v : Value), s3 = v ∧ M (foot b bn bb bg B) w wr ([blk b (sc bn bb bg), mp okI idv bn (dN N), mp okI idv bb (dB B), mp okI idv bg (dG G), beh B, ids v done].set 3 (itr okI idv w.heap.size bg (dG G) todo cur)) ∧ (done ++ todo.map (·.1)).Perm ((dG G).map (·.1))) (fun s3 _ => 1000 - lnv s3)
  case atStart => exact ⟨[], _, _, _, rfl, HM.out, List.Perm.refl _⟩
  case round =>
    clear HM c0
    obtain ⟨done, todo, cur, v, e1, hM, hP⟩ := hrel
    replace e1 := e1.symm
    subst e1
    have HM : Hid _ := hM
    have HP : Hid _ := hP
    obtain ⟨va, vc, e1, _⟩ := (show Ids.Own wr v done from HM.out.get 5 rfl).at
    subst e1
    have HLd : Hid (done.length + todo.length ≤ 1000) := by
      show _ ≤ _
      have := hP.length_eq
      rw [List.length_append, List.length_map, List.length_map] at this
      rw [this]
      exact HNl.out
    obtain ⟨q, hq⟩ : ∃ q, done.length = q := ⟨_, rfl⟩
    have Hq : Hid (done.length = q) := hq
    rw [hq] at HM ⊢
    clear hM hP
    have hq1 : q ≤ 1000 := by have := HLd.out; omega
    clear hq
    cases todo with
    | nil =>
      have HE : Hid (IdL.setL done = l) := HLs.out done (fun u => by
        have := HP.out.mem_iff (a := u)
        rw [List.map_nil, List.append_nil, HKs.out] at this
        exact this)
      go_wp2_with (first | (at_next; refine Mp.wl_next rfl rfl rfl (HM.out.get 3 rfl) (fun _ => ?_) (fun l1 p l2 w' e => by cases l1 <;> cases e); simp only [Act.put, List.setIfInBounds_toArray, List.set_cons_zero, List.set_cons_succ]) | (go_at_call 57; refine (set_any _ va q vc done (own_idat (HM.out.get 5 rfl)) (by omega)).mono ?_; rintro e w2 ⟨v2, rfl, o2, k2, f2⟩; rw [HE.out] at o2; have HM : Hid _ := HM.out.add (x := ids v2 l) k2 o2 (fun k hk => ⟨f2 k hk, o2.lt hk⟩); clear o2 k2 f2))
      go_ret
      have h9 := M.ofItr HM.out 3 rfl
      exact ⟨_, rfl, packS (h9.sub _ [6, 0, 1, 2, 3, 4] (by decide) rfl)⟩
    | cons p0 todo0 =>
      go_wp2_with (first | (at_next; refine Mp.wl_next rfl rfl rfl (HM.out.get 3 rfl) (fun e => by cases e) ?_; intro l1 p l2 w3 e3 i3 k3 z3; have HU : Hid (p.1.length = 32) := it_key i3 (by rw [← e3]; exact HP.out); have HUs : Hid ((p.1.map bv).toArray.size = 32) := (by show _ = _; rw [List.size_toArray, List.length_map]; exact HU.out); have HE3 : Hid _ := e3; have HM : Hid _ := M.stepItr HM.out 3 rfl i3 k3; clear e3 i3 k3 z3; simp only [Act.put, List.setIfInBounds_toArray, List.set_cons_zero, List.set_cons_succ]) | (refine Mp.wl_entry rfl rfl rfl (HM.out.get 3 rfl) ?_; simp only [Act.put, List.setIfInBounds_toArray, List.set_cons_zero, List.set_cons_succ]) | ((with_reducible refine at_alloc 35 ?_); refine St.wl_alloc tyI rfl rfl (by (try simp only [World.size_alloc]); rfl) ?_; simp only [Act.put, List.setIfInBounds_toArray, List.set_cons_zero, List.set_cons_succ]) | ((with_reducible refine at_store 35 ?_); refine St.wl_storeN (W := w3) tyI rfl rfl rfl rfl rfl (by (try simp only [World.size_alloc])) (show _ = Value.agg (p.1.map bv).toArray from rfl) HUs.out rfl (one_bv _) ?_; have HM : Hid _ := HM.out.alloc (.cells (p.1.map bv).toArray 35) rfl) | ((with_reducible refine at_load 35 ?_); refine Ids.wl_load rfl rfl rfl HU.out (HM.out.range 6 rfl) ?_; simp only [Act.put, List.setIfInBounds_toArray, List.set_cons_zero, List.set_cons_succ]) | (refine Ids.wl_build rfl rfl HU.out rfl ?_; have HM : Hid _ := HM.out.alloc (.cells (p.1.map bv).toArray 35) rfl; simp only [Act.put, List.setIfInBounds_toArray, List.set_cons_zero, List.set_cons_succ]) | (refine Ids.wl_app1 rfl rfl rfl (HM.out.get 5 rfl) rfl HU.out (HM.out.get 7 rfl) (by have := Hq.out; omega) ?_; intro v4 w4 h4 k4 g4; have HM : Hid _ := HM.out.appI 5 rfl h4 k4 g4; clear h4 k4 g4; simp only [Act.put, List.setIfInBounds_toArray, List.set_cons_zero, List.set_cons_succ]))
      go_roundw
      case rel =>
        refine ⟨done ++ [p.1], l1 ++ l2, some p, v4, rfl, HM.out.take 6, ?_⟩
        have h8 := HP.out
        rw [HE3.out] at h8
        refine List.Perm.trans ?_ h8
        simp only [List.map_append, List.map_cons, List.append_assoc, List.singleton_append]
        exact List.Perm.append_left _ List.perm_middle.symm
      case measure =>
        obtain ⟨a4, c4, e4, _⟩ := (show Ids.Own _ v4 (done ++ [p.1]) from HM.out.get 5 rfl).at
        subst e4
        have h1 := Hq.out
        have h2 := HLd.out
        rw [List.length_cons] at h2
        simp [lnv]
        omega
end Sq
end Go.Proofs.Ytgpimeobkacniaa
