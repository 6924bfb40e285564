/-
  fetch: once, keep.
-/
import Derived.Test.YtgllkfolckbdhaaFe4
import Derived.Test.YtgllkfolckbdhaaGSr
set_option linter.unusedVariables false
set_option linter.unusedSimpArgs false
namespace Go.Proofs.Ytgllkfolckbdhaa
open Go.RowKit
namespace Fe
open Oct Ids Mp
open Mem (M It blk ids rows)
open Sq (dG map_nil)
def addO (acc : List Wd) (u : Wd) : List Wd := if u ∈ acc then acc else acc ++ [u]
/-- Each id once, in order. -/
def onceL (l : List Wd) : List Wd := l.foldl addO []
theorem onceL_snoc {l : List Wd} {k : Nat} {u : Wd} (h : l[k]? = some u) : onceL (l.take (k + 1)) = addO (onceL (l.take k)) u := by
  unfold onceL
  rw [List.take_add_one, h, List.foldl_append]
  rfl
theorem addO_len (acc : List Wd) (u : Wd) : (addO acc u).length ≤ acc.length + 1 := by
  unfold addO
  split
  · omega
  · simp
theorem foldO_len : ∀ (l acc : List Wd), (l.foldl addO acc).length ≤ acc.length + l.length
  | [], acc => by simp
  | u :: l, acc => by
    rw [List.foldl_cons]
    have h1 := foldO_len l (addO acc u)
    have h2 := addO_len acc u
    rw [List.length_cons]
    omega
theorem onceL_len (l : List Wd) : (onceL l).length ≤ l.length := by
  have := foldO_len l []
  unfold onceL
  simpa using this
theorem foldO_mem : ∀ (l acc : List Wd) (x : Wd), x ∈ l.foldl addO acc ↔ x ∈ acc ∨ x ∈ l
  | [], acc, x => by simp
  | u :: l, acc, x => by
    rw [List.foldl_cons, foldO_mem l, List.mem_cons]
    unfold addO
    split
    · rename_i h
      constructor
      · rintro (h1 | h1)
        · exact .inl h1
        · exact .inr (.inr h1)
      · rintro (h1 | rfl | h1)
        · exact .inl h1
        · exact .inl h
        · exact .inr h1
    · rw [List.mem_append, List.mem_singleton]
      constructor
      · rintro ((h1 | h1) | h1)
        · exact .inl h1
        · exact .inr (.inl h1)
        · exact .inr (.inr h1)
      · rintro (h1 | h1 | h1)
        · exact .inl (.inl h1)
        · exact .inl (.inr h1)
        · exact .inr h1
theorem onceL_mem {l : List Wd} {x : Wd} : x ∈ onceL l ↔ x ∈ l := by unfold onceL; rw [foldO_mem]; simp
theorem foldO_nodup : ∀ (l acc : List Wd), acc.Nodup → (l.foldl addO acc).Nodup
  | [], acc, h => h
  | u :: l, acc, h => by
    rw [List.foldl_cons]
    refine foldO_nodup l _ ?_
    unfold addO
    split
    · exact h
    · rename_i hu
      rw [List.nodup_append]
      exact ⟨h, by simp, fun a ha b hb e => hu (by rw [List.mem_singleton.1 hb] at e; exact e ▸ ha)⟩
theorem onceL_nodup (l : List Wd) : (onceL l).Nodup := foldO_nodup l [] List.nodup_nil
theorem fnd_G (u : Wd) : ∀ (G : List Wd) (j : Nat), (fnd u (dG G) j).isSome = decide (u ∈ G)
  | [], j => rfl
  | y :: G, j => by
    have ih := fnd_G u G (j + 1)
    unfold dG at ih ⊢
    rw [List.map_cons, fnd]
    by_cases e : u = y
    · rw [if_pos e]; simp [e]
    · rw [if_neg e, ih]; simp [e]
theorem fnd_Gv (u : Wd) : ∀ (G : List Wd) (j : Nat) (q : Nat × Value), fnd u (dG G) j = some q → q.2 = .bool true
  | [], j, q, h => by cases h
  | y :: G, j, q, h => by
    unfold dG at h
    rw [List.map_cons, fnd] at h
    by_cases e : u = y
    · rw [if_pos e] at h; cases h; rfl
    · rw [if_neg e] at h; exact fnd_Gv u G (j + 1) q h
theorem look_G (G : List Wd) (u : Wd) : (Mp.get (dG G) u).getD (.bool false) = .bool (decide (u ∈ G)) := by
  have h := fnd_G u G 0
  unfold Mp.get
  cases hf : fnd u (dG G) 0 with
  | none => rw [hf] at h; rw [← h]; rfl
  | some q => rw [hf] at h; rw [← h]; simp [fnd_Gv u G 0 q hf]
theorem put_G {G : List Wd} {u : Wd} (h : u ∉ G) : put (dG G) u (.bool true) = dG (G ++ [u]) := by
  have hf := fnd_G u G 0
  rw [decide_eq_false h] at hf
  unfold put
  cases e : fnd u (dG G) 0 with
  | none => simp only; unfold dG; rw [List.map_append]; rfl
  | some q => rw [e] at hf; cases hf
theorem zeroB (w : World) : (zeroValue 4).run Try.prog w = .ok (.bool false) w := by
  have h : (Try.prog.info? 4).map (fun i => (i.zero, i.size)) = some (some (.bool false), 1) := by kernel_rfl
  cases hi : Try.prog.info? 4 with
  | none => rw [hi] at h; cases h
  | some i =>
    rw [hi] at h
    simp only [Option.map_some, Option.some.injEq, Prod.mk.injEq] at h
    simp [zeroValue, typeInfo, hi, h.1]
theorem own_idat {w : World} {a : Option Addr} {n c : Nat} {els : List Wd} (h : Ids.Own w (.slice a n c) els) : At w a n els := by
  obtain ⟨a', c', e, h1, _⟩ := h.at
  cases e
  exact h1
theorem tyI : St.Ty 32 32 z32 := tyId
set_option maxRecDepth 100000 in
set_option maxHeartbeats 2000000 in
theorem once_any (w : World) (a : Option Addr) (n c : Nat) (l : List Wd) (h : At w a n l) (hn : n ≤ 1000) :
    Calls Try.prog 25 #[.slice a n c] w fun e w' => ∃ v, e = .returned v ∧ Ids.New w w' v (onceL l) := by
  have HA : Hid (At w a n l) := h
  have Hn : Hid (l.length = n) := h.len
  have HM0 : Hid (M (fun _ => False) w w []) := M.start _ w
  clear h
  go_enter Try.func25, Try.ntmps25
  go_wp2_with (first | (refine Mp.wl_make rfl rfl rfl ?_; have HM : Hid _ := M.newMap HM0.out okI idv rfl; simp only [Act.put, List.setIfInBounds_toArray, List.set_cons_zero, List.set_cons_succ]))
  have HM : Hid (M (fun _ => False) w _ [mp okI idv w.heap.size (dG []), ids (.slice none 0 0) []]) := HM.out.nilI
  go_loopw [4, 10] (fun s4 s10 wr => ∃ (k : Nat) (v : Value), k ≤ n ∧ s4 = v ∧ s10 = .int .i64 k ∧ M (fun _ => False) w wr [mp okI idv w.heap.size (dG (onceL (l.take k))), ids v (onceL (l.take k))]) (fun _ s10 _ => n - (intOf s10).toNat)
  case atStart => exact ⟨0, _, Nat.zero_le _, rfl, by go_num, HM.out⟩
  case round =>
    clear HM
    obtain ⟨k, v, hk, e1, rfl, hM⟩ := hrel
    replace e1 := e1.symm
    subst e1
    have HM : Hid (M (fun _ => False) w wr [mp okI idv w.heap.size (dG (onceL (l.take k))), ids v (onceL (l.take k))]) := hM
    clear hM
    by_cases hlt : k < n
    · obtain ⟨u, hu⟩ : ∃ x, l[k]? = some x := ⟨_, List.getElem?_eq_getElem (by rw [Hn.out]; exact hlt)⟩
      obtain ⟨g0, o0, e0, hg0, hr0⟩ := HA.out.lay.resolve_left (by omega)
      subst e0
      have R1 : Hid (wr.rangeAt g0 (o0 + k * 32) (u.map bv)) := HM.out.keep.range hg0 (fun h => h) (hr0 k u hu)
      have HU : Hid (u.length = 32) := HA.out.size u (List.mem_of_getElem? hu)
      have HUs : Hid ((u.map bv).toArray.size = 32) := by show _ = _; rw [List.size_toArray, List.length_map]; exact HU.out
      have HO : Hid (onceL (l.take (k + 1)) = addO (onceL (l.take k)) u) := onceL_snoc hu
      have HLl : Hid ((onceL (l.take k)).length ≤ 1000) := by
        show _ ≤ _
        refine Nat.le_trans (onceL_len _) ?_
        rw [List.length_take]; omega
      clear hr0 hu hg0
      generalize onceL (l.take k) = G at HM HO HLl
      by_cases hm : u ∈ G
      · have HG : Hid (addO G u = G) := if_pos hm
        have HLk : Hid ((Mp.get (dG G) u).getD (.bool false) = .bool true) := by show _ = _; rw [look_G, decide_eq_true hm]
        clear hm
        go_wp2_with (first | ((with_reducible refine at_load 32 ?_); first | (refine Ids.wl_load rfl rfl rfl HU.out R1.out ?_; simp only [Act.put, List.setIfInBounds_toArray, List.set_cons_zero, List.set_cons_succ]) | (refine Ids.wl_load rfl rfl rfl HU.out (HM.out.range 2 rfl) ?_; simp only [Act.put, List.setIfInBounds_toArray, List.set_cons_zero, List.set_cons_succ])) | ((with_reducible refine at_alloc 32 ?_); refine St.wl_alloc tyI rfl rfl (by (try simp only [World.size_alloc]); rfl) ?_; simp only [Act.put, List.setIfInBounds_toArray, List.set_cons_zero, List.set_cons_succ]) | ((with_reducible refine at_store 32 ?_); refine St.wl_storeN (W := wr) tyI rfl rfl rfl rfl rfl (by (try simp only [World.size_alloc])) (show _ = Value.agg (u.map bv).toArray from rfl) HUs.out rfl (one_bv _) ?_; have HM : Hid _ := HM.out.alloc (.cells (u.map bv).toArray 32) rfl) | (refine Mp.wl_look idKey Try.underlying75 rfl rfl rfl (HM.out.get 0 rfl) zeroB HU.out rfl HLk.out ?_; simp only [Act.put, List.setIfInBounds_toArray, List.set_cons_zero, List.set_cons_succ]))
        go_roundw
        case rel => exact ⟨k + 1, v, by omega, rfl, by go_num, by rw [HO.out, HG.out]; exact HM.out.take 2⟩
        case measure => simp [intOf]; omega
      · have HG : Hid (addO G u = G ++ [u]) := if_neg hm
        have HPt : Hid (put (dG G) u (.bool true) = dG (G ++ [u])) := put_G hm
        have HLk : Hid ((Mp.get (dG G) u).getD (.bool false) = .bool false) := by show _ = _; rw [look_G, decide_eq_false hm]
        clear hm
        go_wp2_with (first | ((with_reducible refine at_load 32 ?_); first | (refine Ids.wl_load rfl rfl rfl HU.out R1.out ?_; simp only [Act.put, List.setIfInBounds_toArray, List.set_cons_zero, List.set_cons_succ]) | (refine Ids.wl_load rfl rfl rfl HU.out (HM.out.range 2 rfl) ?_; simp only [Act.put, List.setIfInBounds_toArray, List.set_cons_zero, List.set_cons_succ])) | ((with_reducible refine at_alloc 32 ?_); refine St.wl_alloc tyI rfl rfl (by (try simp only [World.size_alloc]); rfl) ?_; simp only [Act.put, List.setIfInBounds_toArray, List.set_cons_zero, List.set_cons_succ]) | ((with_reducible refine at_store 32 ?_); refine St.wl_storeN (W := wr) tyI rfl rfl rfl rfl rfl (by (try simp only [World.size_alloc])) (show _ = Value.agg (u.map bv).toArray from rfl) HUs.out rfl (one_bv _) ?_; have HM : Hid _ := HM.out.alloc (.cells (u.map bv).toArray 32) rfl) | (refine Mp.wl_look idKey Try.underlying75 rfl rfl rfl (HM.out.get 0 rfl) zeroB HU.out rfl HLk.out ?_; simp only [Act.put, List.setIfInBounds_toArray, List.set_cons_zero, List.set_cons_succ]) | (refine Mp.wl_put (v := .bool true) (k := u) idKey Try.underlying75 rfl rfl rfl (HM.out.get 0 rfl) HU.out rfl rfl ?_; intro w3 i3 k3; rw [HPt.out] at i3; have HM : Hid _ := M.setMap HM.out 0 rfl i3 k3; clear i3 k3) | (refine Ids.wl_build rfl rfl HU.out rfl ?_; have HM : Hid _ := HM.out.alloc (.cells (u.map bv).toArray 32) (by first | rfl | simp only [World.size_alloc]); simp only [Act.put, List.setIfInBounds_toArray, List.set_cons_zero, List.set_cons_succ]) | (refine Ids.wl_app1 rfl rfl rfl (HM.out.get 1 rfl) rfl HU.out (HM.out.get 3 rfl) (by have := HLl.out; omega) ?_; intro v4 w4 h4 k4 g4; have HM : Hid _ := HM.out.appI 1 rfl h4 k4 g4; clear h4 k4 g4; simp only [Act.put, List.setIfInBounds_toArray, List.set_cons_zero, List.set_cons_succ]))
        go_roundw
        case rel => exact ⟨k + 1, _, by omega, rfl, by go_num, by rw [HO.out, HG.out]; exact HM.out.take 2⟩
        case measure => simp [intOf]; omega
    · obtain rfl : k = n := by omega
      have e : l.take k = l := List.take_of_length_le (by rw [Hn.out]; exact Nat.le_refl _)
      rw [e] at HM
      clear e
      go_wp2
      go_ret
      exact ⟨v, rfl, HM.out.get 1 rfl, HM.out.keep, fun k hk => ((HM.out.rng 1 _ rfl k hk).1).resolve_right (fun h => h)⟩
end Fe
end Go.Proofs.Ytgllkfolckbdhaa
