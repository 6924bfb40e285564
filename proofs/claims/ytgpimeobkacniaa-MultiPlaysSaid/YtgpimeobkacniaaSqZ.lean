/-
  petrellaw25: much, play, told, place.
-/
import Derived.Test.YtgpimeobkacniaaSqY
import Derived.Test.YtgpimeobkacniaaSqO
import Derived.Test.YtgpimeobkacniaaSqA
set_option linter.unusedVariables false
set_option linter.unusedSimpArgs false
namespace Go.Proofs.Ytgpimeobkacniaa
open Go.RowKit
namespace Sq
open Oct Ids Mp
open Mem (M It blk ids rows)
section
variable {w : World} {b o : Nat} {x : Ak}
theorem rng_k (h : w.rangeAt b o (qe x)) : w.cell? ⟨b, o, none⟩ = some (.int .i64 x.k) := h 0 _ rfl
theorem rng_d (h : w.rangeAt b o (qe x)) : w.rangeAt b (o + 1) (de x.d) := fun j v hj => by
  have := h (1 + j) v (by unfold qe; rw [Nat.add_comm, List.getElem?_cons_succ]; exact hj)
  rwa [← Nat.add_assoc] at this
end
structure MuPost (w : World) (n : Nat) (L : List Ak) (e : Ending) (w' : World) : Prop where
  ex : ∃ p, e = .returned (.bool p) ∧ Keep (fun _ => False) w w' ∧ (p = false → n ≤ 30 ∧ ∀ x ∈ L, x.d.x.v.size ≤ 100)
set_option maxRecDepth 100000 in
set_option maxHeartbeats 2000000 in
theorem smuch_any (w : World) (a : Option Addr) (n c : Nat) (L : List Ak) (hA : St.At 67 qe w a n L) (hL : ∀ x ∈ L, x.d.x.v.size ≤ maxLen) :
    Calls Try.prog 11 #[.slice a n c] w (MuPost w n L) := by
  have HA : Hid (St.At 67 qe w a n L) := hA
  have HL : Hid (∀ x ∈ L, x.d.x.v.size ≤ maxLen) := hL
  have hnm := hA.most
  unfold maxLen at hnm
  clear hA hL
  go_enter Try.func11, Try.ntmps11
  go_wp2
  go_loopw [3] (fun i wr => ∃ (k : Nat), k ≤ n ∧ k ≤ 30 ∧ i = .int .i64 k ∧ (∀ (j : Nat) (y : Ak), j < k → L[j]? = some y → y.d.x.v.size ≤ 100) ∧ Keep (fun _ => False) w wr) (fun i _ => 30 - (intOf i).toNat)
  case atStart => exact ⟨0, Nat.zero_le _, Nat.zero_le _, rfl, fun j y hj => absurd hj (Nat.not_lt_zero _), Keep.refl _ _⟩
  case round =>
    obtain ⟨k, hkn, hk30, rfl, hno, hK⟩ := hrel
    have HK : Hid _ := hK
    have HNo : Hid (∀ (j : Nat) (y : Ak), j < k → L[j]? = some y → y.d.x.v.size ≤ 100) := hno
    clear hK hno
    by_cases hlt : k < n ∧ k < 30
    · obtain ⟨hlt, hlt2⟩ := hlt
      obtain ⟨x, hx⟩ : ∃ x, L[k]? = some x := ⟨_, List.getElem?_eq_getElem (by rw [HA.out.len]; exact hlt)⟩
      obtain ⟨b1, o1, rfl, hb1, hr1⟩ : ∃ b off, a = some ⟨b, off, none⟩ ∧ b < w.heap.size ∧ ∀ i x, L[i]? = some x → w.rangeAt b (off + i * 67) (qe x) := by rcases HA.out.lay with e | e; omega; exact e
      have d66 := rng_v (rng_d (HK.out.range hb1 (fun h => h) (hr1 k x hx)))
      have Hx : Hid (L[k]? = some x) := hx
      have hxv := HL.out x (List.mem_of_getElem? hx)
      obtain ⟨xv, hv⟩ : ∃ v, x.d.x.v = v := ⟨_, rfl⟩
      have Hv : Hid (x.d.x.v = xv) := hv
      rw [hv] at d66 hxv
      unfold maxLen at hxv
      clear hr1 hx hv hb1
      by_cases hbig : 100 < xv.size
      · go_wp2
        go_ret
        exact ⟨_, rfl, HK.out, fun h => by cases h⟩
      · go_wp2
        go_roundw
        case rel =>
          refine ⟨k + 1, by omega, by omega, by go_num, fun j y hj hy => ?_, HK.out⟩
          rcases Nat.lt_or_ge j k with h | h
          · exact HNo.out j y h hy
          · obtain rfl : j = k := by omega
            rw [Hx.out] at hy
            rw [← Option.some.inj hy, Hv.out]
            omega
        case measure => simp [intOf]; omega
    · have hex : n ≤ 30 → ∀ x ∈ L, x.d.x.v.size ≤ 100 := fun hn x hx => by
        obtain ⟨j, hj⟩ := List.getElem?_of_mem hx
        have h1 := (List.getElem?_eq_some_iff.1 hj).1
        rw [HA.out.len] at h1
        exact HNo.out j x (by omega) hj
      have HX : Hid _ := hex
      clear hex
      by_cases h30 : 30 < n
      · have hk : k = 30 := by omega
        have hkn' : k < n := by omega
        have hk30' : ¬ (k : Int) < 30 := by omega
        clear hlt hk
        go_wp2
        go_ret
        exact ⟨_, rfl, HK.out, fun h => by have := of_decide_eq_false h; omega⟩
      · have hk' : n = k := by omega
        subst hk'
        clear hlt
        go_wp2
        go_ret
        exact ⟨_, rfl, HK.out, fun _ => ⟨by omega, HX.out (by omega)⟩⟩
theorem STo.calm {w w' : World} {b bn bb bg : Nat} {N : Nds} {B : Bhs} {G : List Wd} (h : SqAt w b bn bb bg N B G) (k : Keep (fun _ => False) w w') : STo w w' b bn bb bg B N B G :=
  ⟨h.calm k, ⟨k.os, k.tape, k.output, k.size, fun j hj _ => k.block j hj (fun h => h)⟩, fun _ h => .inl h⟩
/-- What a call makes of the program's nodes, and of what is gone. -/
def stN (N : Nds) (x : Ak) : Nds := if isI x ∧ chk x.d.u x.d.x = 0 ∧ x.d.u ∉ N.map (·.1) then fput N x.d.u x.d.x else N
def stA (G : List Wd) (x : Ak) : List Wd := if isI x then G else addG G x.d.u
def ans (x : Ak) : Int := if isI x then chk x.d.u x.d.x else 0
theorem stN_len (N : Nds) (x : Ak) : (stN N x).length ≤ N.length + 1 := by
  unfold stN
  split
  · rename_i h
    rw [fput_new _ h.2.2, List.length_append]
    exact Nat.le_refl _
  · omega
structure PlPost (w : World) (b bn bb bg : Nat) (N : Nds) (B : Bhs) (G : List Wd) (x : Ak) (e : Ending) (w' : World) : Prop where
  ret : e = .returned (.int .i64 (ans x))
  sq : ∃ B', STo w w' b bn bb bg B (stN N x) B' (stA G x) ∧ Inv (stN N x) B'
theorem all_st {w : World} {b bn bb bg : Nat} {N : Nds} {B : Bhs} {G : List Wd} (h : SqAt w b bn bb bg N B G) : M (foot b bn bb bg B) w w [sqI b bn bb bg N B G] :=
  M.start1 (x := sqI b bn bb bg N B G) h (fun k hk => by
    rcases hk with (hk | hk | hk | hk) | hk
    · exact (h.all.rng 0 _ rfl k hk).2
    · exact (h.all.rng 1 _ rfl k hk).2
    · exact (h.all.rng 2 _ rfl k hk).2
    · exact (h.all.rng 3 _ rfl k hk).2
    · exact (h.all.rng 4 _ rfl k hk).2)
theorem rowsB_all {N : Nds} {B : Bhs} (hi : Inv N B) (hN : N.length ≤ 1000) : ∀ p ∈ B, p.2.2.length ≤ 1000 := fun p hp => by
  have h1 := hi.row_len p.1
  unfold rowsB rowB at h1
  rw [fget_of hi.bk (show (p.1, p.2) ∈ B from hp)] at h1
  exact Nat.le_trans h1 hN
set_option maxRecDepth 100000 in
set_option maxHeartbeats 4000000 in
theorem play_any (w : World) (b bn bb bg : Nat) (N : Nds) (B : Bhs) (G : List Wd) (h : SqAt w b bn bb bg N B G) (hi : Inv N B) (hN : N.length ≤ 1000) (x : Ak) (hx : x.d.x.v.size ≤ maxLen) :
    Calls Try.prog 14 #[.pointer (some ⟨b, 0, none⟩), .agg (qe x).toArray] w (PlPost w b bn bb bg N B G x) := by
  have HM : Hid (M (foot b bn bb bg B) w _ [sqI b bn bb bg N B G, blk w.heap.size (.cells (qe x).toArray 39)]) := (all_st h).alloc (.cells (qe x).toArray 39) rfl
  have RA := HM.out.range 1 rfl
  have d0 := rng_k RA
  have RD := rng_d RA
  have d33 := rng_h RD
  have d66 := rng_v RD
  have RU : Hid _ := rng_u RD
  have RR : Hid _ := rng_r RD
  simp only [Nat.zero_add, Nat.reduceAdd] at d33 d66 RU RR
  have HU : Hid (x.d.u.length = 32) := x.d.hu
  have HR : Hid (x.d.x.r.length = 32) := x.d.x.hr
  have HIn : Hid (∀ w1, SqAt w1 b bn bb bg N B G → Calls Try.prog 48 #[.pointer (some ⟨b, 0, none⟩), idv x.d.u, .int .i64 x.d.x.h, idv x.d.x.r, .string x.d.x.v] w1 fun e w' => e = .returned (.int .i64 (chk x.d.u x.d.x)) ∧ (isI x → ∃ B', STo w1 w' b bn bb bg B (stN N x) B' G ∧ Inv (stN N x) B')) := fun w1 h1 =>
    (insert_any w1 b bn bb bg N B G h1 (rowsB_all hi hN) x.d.u x.d.hu x.d.x hx).mono fun e w' ⟨h2, h3⟩ => ⟨h2, fun hI => by
      unfold stN
      by_cases hc : chk x.d.u x.d.x = 0 ∧ x.d.u ∉ N.map (·.1)
      · rw [if_pos hc] at h3
        rw [if_pos ⟨hI, hc⟩]
        obtain ⟨v, hv⟩ := h3
        exact ⟨_, hv, hi.put x.d.hu hc.1 hc.2 v⟩
      · rw [if_neg hc] at h3
        rw [if_neg (fun h => hc h.2)]
        exact ⟨B, STo.calm h1 h3, hi⟩⟩
  have HDe : Hid (∀ w1, SqAt w1 b bn bb bg N B G → Calls Try.prog 49 #[.pointer (some ⟨b, 0, none⟩), idv x.d.u] w1 fun e w' => e = .returned (.int .i64 0) ∧ STo w1 w' b bn bb bg B N B (addG G x.d.u)) := fun w1 h1 => sdelete w1 b bn bb bg N B G h1 x.d.u x.d.hu
  have Hi : Hid (Inv N B) := hi
  obtain ⟨ak, hak⟩ : ∃ k, x.k = k := ⟨_, rfl⟩
  have HA : Hid (x.k = ak) := hak
  rw [hak] at d0
  have HT : Hid (isI x → ans x = chk x.d.u x.d.x ∧ stA G x = G) := fun h => ⟨if_pos h, if_pos h⟩
  have HF : Hid (¬ isI x → ans x = 0 ∧ stA G x = addG G x.d.u ∧ stN N x = N) := fun h => ⟨if_neg h, if_neg h, if_neg (fun h' => h h'.1)⟩
  generalize (qe x).toArray = Y at HM d0 d33 d66 RU RR ⊢
  clear h hi hN hx RA RD hak
  go_enter Try.func14, Try.ntmps14
  have hcs : (ak = 0 ∨ (ak ≠ 0 ∧ ak = 1)) ∨ (ak ≠ 0 ∧ ak ≠ 1) := by omega
  rcases hcs with hcs | ⟨hk0, hk1⟩
  · have HI : Hid (isI x) := by show _ ∨ _; rw [HA.out]; omega
    have hk : ak = 0 ∨ ((ak == 0) = false ∧ ak = 1) := by rcases hcs with h | ⟨h, h'⟩; exact .inl h; exact .inr ⟨by simpa using h, h'⟩
    clear hcs
    rcases hk with hk | ⟨hk, hk'⟩
    · subst hk
      go_wp2_with (first | ((with_reducible refine at_load 35 ?_); first | (refine Ids.wl_load rfl rfl rfl HU.out RU.out ?_; simp only [Act.put, List.setIfInBounds_toArray, List.set_cons_zero, List.set_cons_succ]) | (refine Ids.wl_load rfl rfl rfl HR.out RR.out ?_; simp only [Act.put, List.setIfInBounds_toArray, List.set_cons_zero, List.set_cons_succ])) | (go_at_call 48; refine (HIn.out _ (HM.out.get 0 rfl)).mono ?_; rintro e w2 ⟨rfl, hp⟩; obtain ⟨B2, t2, i2⟩ := hp HI.out; have H2 : Hid _ := i2; have HM : Hid _ := M.sto HM.out 0 rfl t2; clear hp t2 i2) | (go_at_call 49; refine (HDe.out _ (HM.out.get 0 rfl)).mono ?_; rintro e w2 ⟨rfl, t2⟩; have HM : Hid _ := M.sto HM.out 0 rfl t2; clear t2))
      go_ret
      refine ⟨congrArg (fun q => Ending.returned (Value.int .i64 q)) (HT.out HI.out).1.symm, ?_⟩
      rw [(HT.out HI.out).2]
      exact ⟨B2, STo.ofI HM.out 0 rfl, H2.out⟩
    · subst hk'
      go_wp2_with (first | ((with_reducible refine at_load 35 ?_); first | (refine Ids.wl_load rfl rfl rfl HU.out RU.out ?_; simp only [Act.put, List.setIfInBounds_toArray, List.set_cons_zero, List.set_cons_succ]) | (refine Ids.wl_load rfl rfl rfl HR.out RR.out ?_; simp only [Act.put, List.setIfInBounds_toArray, List.set_cons_zero, List.set_cons_succ])) | (go_at_call 48; refine (HIn.out _ (HM.out.get 0 rfl)).mono ?_; rintro e w2 ⟨rfl, hp⟩; obtain ⟨B2, t2, i2⟩ := hp HI.out; have H2 : Hid _ := i2; have HM : Hid _ := M.sto HM.out 0 rfl t2; clear hp t2 i2) | (go_at_call 49; refine (HDe.out _ (HM.out.get 0 rfl)).mono ?_; rintro e w2 ⟨rfl, t2⟩; have HM : Hid _ := M.sto HM.out 0 rfl t2; clear t2))
      go_ret
      refine ⟨congrArg (fun q => Ending.returned (Value.int .i64 q)) (HT.out HI.out).1.symm, ?_⟩
      rw [(HT.out HI.out).2]
      exact ⟨B2, STo.ofI HM.out 0 rfl, H2.out⟩
  · have HI : Hid (¬ isI x) := by show ¬ (_ ∨ _); rw [HA.out]; omega
    have hk2 : (ak == 0) = false := by simpa using hk0
    have hk3 : (ak == 1) = false := by simpa using hk1
    clear hk0 hk1
    go_wp2_with (first | ((with_reducible refine at_load 35 ?_); first | (refine Ids.wl_load rfl rfl rfl HU.out RU.out ?_; simp only [Act.put, List.setIfInBounds_toArray, List.set_cons_zero, List.set_cons_succ]) | (refine Ids.wl_load rfl rfl rfl HR.out RR.out ?_; simp only [Act.put, List.setIfInBounds_toArray, List.set_cons_zero, List.set_cons_succ])) | (go_at_call 48; refine (HIn.out _ (HM.out.get 0 rfl)).mono ?_; rintro e w2 ⟨rfl, hp⟩; obtain ⟨B2, t2, i2⟩ := hp HI.out; have H2 : Hid _ := i2; have HM : Hid _ := M.sto HM.out 0 rfl t2; clear hp t2 i2) | (go_at_call 49; refine (HDe.out _ (HM.out.get 0 rfl)).mono ?_; rintro e w2 ⟨rfl, t2⟩; have HM : Hid _ := M.sto HM.out 0 rfl t2; clear t2))
    go_ret
    obtain ⟨e1, e2, e3⟩ := HF.out HI.out
    refine ⟨congrArg (fun q => Ending.returned (Value.int .i64 q)) e1.symm, ?_⟩
    rw [e2, e3]
    exact ⟨B, STo.ofI HM.out 0 rfl, Hi.out⟩
section
variable {o : Oper} {a : Act} {w : World} {K : Act → World → Prop} {Q : Exit → Act → World → Prop}
theorem wp_storeI {x y : Operand} (ho : o.op = .store 29 x y) (hd : o.dst = none) {p : Addr} (hx : a.eval x = .pointer (some p)) {ad : Option Addr} {n c : Nat} (hy : a.eval y = .slice ad n c) {old : Value} (hc : w.cell? p = some old) (hf : w.frozen? p = false)
    (h : K a (w.setCell p (.slice ad n c))) : o.wp Try.prog a w K Q := by
  unfold Oper.wp execOp
  simp only [ho, hx, hy, Sem.run_bind, run_storeS hc hf, Result.andThen_ok, Sem.run_pure]
  rw [Oper.upon_skip, hd]
  exact h
end
set_option maxRecDepth 100000 in
set_option maxHeartbeats 4000000 in
theorem xdelete_any (w : World) (b : Nat) (lv gv : Value) (X : List Dn) (G : List Wd) (h : XsAt w b lv gv X G) (hG : G.length ≤ 1000) (u : Wd) (hu : u.length = 32) :
    Calls Try.prog 51 #[.pointer (some ⟨b, 0, none⟩), idv u] w fun e w' => e = .returned (.tuple #[]) ∧ ∃ gv', XSTo w w' b lv gv lv gv' X (IdL.withL G u) := by
  obtain ⟨ga, gc, e0, _⟩ := h.gone.at
  subst e0
  obtain ⟨n, hn⟩ : ∃ n, G.length = n := ⟨_, rfl⟩
  rw [hn] at h ⊢
  have HM : Hid (M (xsfoot b lv (.slice ga n gc)) w _ (xsit b lv (.slice ga n gc) X G ++ [blk w.heap.size (.cells (u.map bv).toArray 35)])) := h.all.alloc (.cells (u.map bv).toArray 35) rfl
  have HU : Hid (u.length = 32) := hu
  have HW : Hid (∀ w1, Ids.Own w1 (.slice ga n gc) G → Calls Try.prog 55 #[.slice ga n gc, idv u] w1 fun e w' => ∃ v', e = .returned v' ∧ Own w' v' (IdL.withL G u) ∧ Keep (fun _ => False) w1 w' ∧ (v' = .slice ga n gc ∨ ∀ k, v'.ownBlock = some k → w1.heap.size ≤ k)) := fun w1 h1 => xwith_own w1 _ G h1 (by omega) u hu
  clear hG hn hu h
  go_enter Try.func51, Try.ntmps51
  go_wp2
  have HM : Hid _ := HM.out.drew
  have c1 := HM.out.cell 0 rfl 1 (v := .slice ga n gc) rfl
  refine Txt.wp_region_text (fun _ => True) [0, 0, 0, 0, 1, 1, 4, 0, 0, 4] (by kernel_rfl) (by kernel_rfl) trivial ?_
  (repeat (first | (refine Txt.tl_pure (v := ?_) (by rfl) ?_ ?_; rotate_left; (focus (intro _; go_simp; try with_reducible rfl)); simp only [Act.put, List.setIfInBounds_toArray, List.set_cons_zero, List.set_cons_succ]) | (refine Txt.tl_load (v := ?_) (by rfl) (by rfl) (by rfl) (by kernel_rfl) ?_ ?_; rotate_left; (focus assumption); simp only [Act.put, List.setIfInBounds_toArray, List.set_cons_zero, List.set_cons_succ]) | (refine Txt.tl_rowN (n := 32) (ty := 35) (by rfl) (by rfl) (by rfl) (HM.out.range 3 rfl) (by kernel_rfl) (by rw [List.length_map]; exact HU.out) ?_; simp only [Act.put, List.setIfInBounds_toArray, List.set_cons_zero, List.set_cons_succ]) | (refine Txt.tl_skip (by rfl) trivial ?_; simp only [Act.put, List.setIfInBounds_toArray, List.set_cons_zero, List.set_cons_succ])))
  refine Txt.tl_call Try.func55 (by kernel_rfl) (by kernel_rfl) (by rfl) (by rfl) (by rfl) (HW.out _ (HM.out.get 2 rfl)) ?_
  rintro e w2 ⟨v2, rfl, o2, k2, g2⟩
  obtain ⟨a2, c2, e2, _⟩ := o2.at
  subst e2
  have HM : Hid (M (xsfoot b lv (.slice ga n gc)) w w2 ([blk b (xsc lv (.slice ga n gc)), rD lv X, ids (.slice a2 (IdL.withL G u).length c2) (IdL.withL G u), blk w.heap.size (.cells (u.map bv).toArray 35)])) := HM.out.upd 2 rfl k2 (fun _ h => h.elim) (y := ids (.slice a2 (IdL.withL G u).length c2) (IdL.withL G u)) o2 (fun k hk => by
    rcases g2 with g2 | g2
    · rw [g2] at hk; exact .inl hk
    · exact .inr ⟨g2 k hk, o2.lt hk⟩)
  clear k2 g2 o2 c1
  refine ⟨_, rfl, trivial, ?_⟩
  simp only [Act.put, List.setIfInBounds_toArray, List.set_cons_zero, List.set_cons_succ]
  (repeat (first | (refine Txt.tl_pure (v := ?_) (by rfl) ?_ ?_; rotate_left; (focus (intro _; go_simp; try with_reducible rfl)); simp only [Act.put, List.setIfInBounds_toArray, List.set_cons_zero, List.set_cons_succ]) | (refine Txt.tl_load (v := ?_) (by rfl) (by rfl) (by rfl) (by kernel_rfl) ?_ ?_; rotate_left; (focus assumption); simp only [Act.put, List.setIfInBounds_toArray, List.set_cons_zero, List.set_cons_succ]) | (refine Txt.tl_rowN (n := 32) (ty := 35) (by rfl) (by rfl) (by rfl) (HM.out.range 3 rfl) (by kernel_rfl) (by rw [List.length_map]; exact HU.out) ?_; simp only [Act.put, List.setIfInBounds_toArray, List.set_cons_zero, List.set_cons_succ]) | (refine Txt.tl_skip (by rfl) trivial ?_; simp only [Act.put, List.setIfInBounds_toArray, List.set_cons_zero, List.set_cons_succ])))
  refine Txt.tl_loud (by rfl) ?_
  refine wp_storeI rfl rfl rfl rfl (HM.out.cell 0 rfl 1 rfl) (HM.out.free 0 rfl 1) ?_
  have HM : Hid _ := HM.out.setc 0 rfl 1 (.slice a2 (IdL.withL G u).length c2)
  refine ⟨trivial, ?_⟩
  refine Txt.tl_nil ?_
  go_wp2
  go_end0
  exact ⟨rfl, _, XSTo.of (HM.out.take 3)⟩
structure ToPost (w : World) (b : Nat) (lv gv : Value) (X : List Dn) (G : List Wd) (x : Ak) (e : Ending) (w' : World) : Prop where
  ret : e = .returned (.int .i64 (ans x))
  sq : ∃ lv' gv', XSTo w w' b lv gv lv' gv' (stX X x) (stG G x)
theorem all_xs {w : World} {b : Nat} {lv gv : Value} {X : List Dn} {G : List Wd} (h : XsAt w b lv gv X G) : M (xsfoot b lv gv) w w [xsI b lv gv X G] :=
  M.start1 (x := xsI b lv gv X G) h (fun k hk => by
    obtain ⟨i, y, hi, hy⟩ := xsfoot_to (X := X) (G := G) hk
    exact (h.all.rng i y hi k hy).2)
theorem XSTo.ofI {w w' : World} {b : Nat} {lv gv lv' gv' : Value} {X' : List Dn} {G' : List Wd} {it : List It} (h : M (xsfoot b lv gv) w w' it) (i : Nat) (hi : it[i]? = some (xsI b lv' gv' X' G')) : XSTo w w' b lv gv lv' gv' X' G' := by
  refine ⟨h.get i hi, h.keep, fun k hk => ?_⟩
  obtain ⟨h1, h2⟩ := h.rng i _ hi k hk
  rcases h1 with h1 | h1
  · exact .inr ⟨h1, h2⟩
  · exact .inl h1
set_option maxRecDepth 100000 in
set_option maxHeartbeats 4000000 in
theorem told_any (w : World) (b : Nat) (lv gv : Value) (X : List Dn) (G : List Wd) (h : XsAt w b lv gv X G) (hX : X.length ≤ 1000) (hG : G.length ≤ 1000) (hs : IdL.Srt (X.map (·.u))) (x : Ak) (hx : x.d.x.v.size ≤ maxLen) :
    Calls Try.prog 15 #[.pointer (some ⟨b, 0, none⟩), .agg (qe x).toArray] w (ToPost w b lv gv X G x) := by
  have HM : Hid (M (xsfoot b lv gv) w _ [xsI b lv gv X G, blk w.heap.size (.cells (qe x).toArray 39)]) := (all_xs h).alloc (.cells (qe x).toArray 39) rfl
  have RA := HM.out.range 1 rfl
  have d0 := rng_k RA
  have RD := rng_d RA
  have RU : Hid _ := rng_u RD
  rw [Nat.zero_add] at RU RD
  have RDh : Hid _ := RD
  have HDl : Hid ((de x.d).length = 66) := de_len x.d
  have HU : Hid (x.d.u.length = 32) := x.d.hu
  have HIn : Hid (∀ w1, XsAt w1 b lv gv X G → Calls Try.prog 50 #[.pointer (some ⟨b, 0, none⟩), .agg (de x.d).toArray] w1 fun e w' => e = .returned (.int .i64 (chk x.d.u x.d.x)) ∧ (isI x → ∃ lv', XSTo w1 w' b lv gv lv' gv (stX X x) G)) := fun w1 h1 =>
    (xinsert_any w1 b lv gv X G h1 hX hs x.d hx).mono fun e w' ⟨h2, h3⟩ => ⟨h2, fun hI => by
      unfold stX
      by_cases hc : chk x.d.u x.d.x = 0
      · rw [if_pos hc] at h3
        rw [if_pos ⟨hI, hc⟩]
        exact h3
      · rw [if_neg hc] at h3
        rw [if_neg (fun h => hc h.2)]
        exact h3⟩
  have HDe : Hid (∀ w1, XsAt w1 b lv gv X G → Calls Try.prog 51 #[.pointer (some ⟨b, 0, none⟩), idv x.d.u] w1 fun e w' => e = .returned (.tuple #[]) ∧ ∃ gv', XSTo w1 w' b lv gv lv gv' X (IdL.withL G x.d.u)) := fun w1 h1 => xdelete_any w1 b lv gv X G h1 hG x.d.u x.d.hu
  obtain ⟨ak, hak⟩ : ∃ k, x.k = k := ⟨_, rfl⟩
  have HA : Hid (x.k = ak) := hak
  rw [hak] at d0
  have HT : Hid (isI x → ans x = chk x.d.u x.d.x ∧ stG G x = G) := fun h => ⟨if_pos h, if_pos h⟩
  have HF : Hid (¬ isI x → ans x = 0 ∧ stG G x = IdL.withL G x.d.u ∧ stX X x = X) := fun h => ⟨if_neg h, if_neg h, if_neg (fun h' => h h'.1)⟩
  generalize (qe x).toArray = Y at HM d0 RU RDh ⊢
  clear h hX hG hs hx RA RD hak
  go_enter Try.func15, Try.ntmps15
  have hcs : (ak = 0 ∨ (ak ≠ 0 ∧ ak = 1)) ∨ (ak ≠ 0 ∧ ak ≠ 1) := by omega
  rcases hcs with hcs | ⟨hk0, hk1⟩
  · have HI : Hid (isI x) := by show _ ∨ _; rw [HA.out]; omega
    have hk : ak = 0 ∨ ((ak == 0) = false ∧ ak = 1) := by rcases hcs with h | ⟨h, h'⟩; exact .inl h; exact .inr ⟨by simpa using h, h'⟩
    clear hcs
    rcases hk with hk | ⟨hk, hk'⟩
    · subst hk
      go_wp2_with (first | ((with_reducible refine at_load 37 ?_); refine St.wl_load tyD rfl rfl rfl RDh.out HDl.out ?_; simp only [Act.put, List.setIfInBounds_toArray, List.set_cons_zero, List.set_cons_succ]) | ((with_reducible refine at_load 35 ?_); refine Ids.wl_load rfl rfl rfl HU.out RU.out ?_; simp only [Act.put, List.setIfInBounds_toArray, List.set_cons_zero, List.set_cons_succ]) | (go_at_call 50; refine (HIn.out _ (HM.out.get 0 rfl)).mono ?_; rintro e w2 ⟨rfl, hp⟩; obtain ⟨lv2, t2⟩ := hp HI.out; have HM : Hid _ := M.xs HM.out 0 rfl t2; clear hp t2) | (go_at_call 51; refine (HDe.out _ (HM.out.get 0 rfl)).mono ?_; rintro e w2 ⟨rfl, gv2, t2⟩; have HM : Hid _ := M.xs HM.out 0 rfl t2; clear t2))
      go_ret
      refine ⟨congrArg (fun q => Ending.returned (Value.int .i64 q)) (HT.out HI.out).1.symm, ?_⟩
      rw [(HT.out HI.out).2]
      exact ⟨lv2, gv, XSTo.ofI HM.out 0 rfl⟩
    · subst hk'
      go_wp2_with (first | ((with_reducible refine at_load 37 ?_); refine St.wl_load tyD rfl rfl rfl RDh.out HDl.out ?_; simp only [Act.put, List.setIfInBounds_toArray, List.set_cons_zero, List.set_cons_succ]) | ((with_reducible refine at_load 35 ?_); refine Ids.wl_load rfl rfl rfl HU.out RU.out ?_; simp only [Act.put, List.setIfInBounds_toArray, List.set_cons_zero, List.set_cons_succ]) | (go_at_call 50; refine (HIn.out _ (HM.out.get 0 rfl)).mono ?_; rintro e w2 ⟨rfl, hp⟩; obtain ⟨lv2, t2⟩ := hp HI.out; have HM : Hid _ := M.xs HM.out 0 rfl t2; clear hp t2) | (go_at_call 51; refine (HDe.out _ (HM.out.get 0 rfl)).mono ?_; rintro e w2 ⟨rfl, gv2, t2⟩; have HM : Hid _ := M.xs HM.out 0 rfl t2; clear t2))
      go_ret
      refine ⟨congrArg (fun q => Ending.returned (Value.int .i64 q)) (HT.out HI.out).1.symm, ?_⟩
      rw [(HT.out HI.out).2]
      exact ⟨lv2, gv, XSTo.ofI HM.out 0 rfl⟩
  · have HI : Hid (¬ isI x) := by show ¬ (_ ∨ _); rw [HA.out]; omega
    have hk2 : (ak == 0) = false := by simpa using hk0
    have hk3 : (ak == 1) = false := by simpa using hk1
    clear hk0 hk1
    go_wp2_with (first | ((with_reducible refine at_load 37 ?_); refine St.wl_load tyD rfl rfl rfl RDh.out HDl.out ?_; simp only [Act.put, List.setIfInBounds_toArray, List.set_cons_zero, List.set_cons_succ]) | ((with_reducible refine at_load 35 ?_); refine Ids.wl_load rfl rfl rfl HU.out RU.out ?_; simp only [Act.put, List.setIfInBounds_toArray, List.set_cons_zero, List.set_cons_succ]) | (go_at_call 50; refine (HIn.out _ (HM.out.get 0 rfl)).mono ?_; rintro e w2 ⟨rfl, hp⟩; obtain ⟨lv2, t2⟩ := hp HI.out; have HM : Hid _ := M.xs HM.out 0 rfl t2; clear hp t2) | (go_at_call 51; refine (HDe.out _ (HM.out.get 0 rfl)).mono ?_; rintro e w2 ⟨rfl, gv2, t2⟩; have HM : Hid _ := M.xs HM.out 0 rfl t2; clear t2))
    go_ret
    obtain ⟨e1, e2, e3⟩ := HF.out HI.out
    refine ⟨congrArg (fun q => Ending.returned (Value.int .i64 q)) e1.symm, ?_⟩
    rw [e2, e3]
    exact ⟨lv, gv2, XSTo.ofI HM.out 0 rfl⟩
set_option maxRecDepth 100000 in
set_option maxHeartbeats 2000000 in
theorem place_any (w : World) (a : Option Addr) (n c : Nat) (els : List Wd) (h : At w a n els) (hm : n ≤ 1000000) (x : Wd) (hx : x.length = 32) :
    Calls Try.prog 17 #[.slice a n c, idv x] w fun e w' => e = .returned (.int .i64 (plc els x)) ∧ Keep (fun _ => False) w w' := by
  have H : Hid (At w a n els) := h
  have HN : Hid (els.length = n) := h.len
  have Lx : Hid (x.length = 32) := hx
  have hgd := guard_id
  clear h hx
  go_enter Try.func17, Try.ntmps17
  go_wp2
  go_loopw [5] (fun i wr => ∃ k : Nat, k ≤ n ∧ i = .int .i64 k ∧ Keep (fun _ => False) (w.alloc (.cells (x.map bv).toArray 35)) wr ∧ (∀ j y, j < k → els[j]? = some y → y ≠ x)) (fun i _ => n - (intOf i).toNat)
  case atStart => exact ⟨0, Nat.zero_le _, rfl, Keep.refl _ _, fun j y hj => absurd hj (Nat.not_lt_zero _)⟩
  case round =>
    obtain ⟨k, hk, rfl, hkp, hb⟩ := hrel
    have HK : Hid (Keep (fun _ => False) (w.alloc (.cells (x.map bv).toArray 35)) wr) := hkp
    have HB : Hid (∀ j y, j < k → els[j]? = some y → y ≠ x) := hb
    clear hkp hb
    have HKw : Hid (Keep (fun _ => False) w wr) := ((Keep.refl _ _).alloc _).trans HK.out
    by_cases hlt : k < n
    · obtain ⟨y, hy⟩ : ∃ y, els[k]? = some y := ⟨_, List.getElem?_eq_getElem (by rw [HN.out]; omega)⟩
      obtain ⟨b1, o1, rfl, hb1, hr1⟩ : ∃ b off, a = some ⟨b, off, none⟩ ∧ b < w.heap.size ∧ ∀ i x, els[i]? = some x → w.rangeAt b (off + i * 32) (x.map bv) := by rcases H.out.lay with e | e; omega; exact e
      have R1 : Hid (wr.rangeAt b1 (o1 + k * 32) (y.map bv)) := HKw.out.range hb1 (fun h => h) (hr1 k y hy)
      have R2 : Hid (wr.rangeAt w.heap.size 0 (x.map bv)) := HK.out.range (by simp) (fun h => h) (range_new w _ _)
      have Ly : Hid (y.length = 32) := H.out.size y (List.mem_of_getElem? hy)
      have L1 : Hid ((y.map bv).length = 32) := by show (y.map bv).length = 32; rw [List.length_map, Ly.out]
      have L2 : Hid ((x.map bv).length = 32) := by show (x.map bv).length = 32; rw [List.length_map, Lx.out]
      have Hy : Hid (els[k]? = some y) := hy
      have hcmp : ∀ w, Sem.run Try.prog (binOp .eql 35 (idv y) (idv x)) w = .ok (.bool (y == x)) w := fun w => eql_id w y x Ly.out Lx.out
      clear hr1 hy
      by_cases he : y = x
      · have HE : Hid (y = x) := he
        have heb : (y == x) = true := by simpa using he
        rw [heb] at hcmp
        clear he heb
        go_wp2
        refine Txt.wp_region_text (fun _ => True) [0, 0, 0, 1, 1, 0] (by kernel_rfl) (by kernel_rfl) trivial ?_
        repeat (first
          | (refine Txt.tl_pure (v := ?_) (by rfl) ?_ ?_; rotate_left; (focus (intro _; go_simp; try with_reducible rfl)); simp only [Act.put, List.setIfInBounds_toArray, List.set_cons_zero, List.set_cons_succ])
          | (refine Txt.tl_skip (by rfl) trivial ?_; simp only [Act.put, List.setIfInBounds_toArray, List.set_cons_zero, List.set_cons_succ])
          | (refine Txt.tl_load (v := ?_) (by rfl) (by rfl) (by rfl) (by kernel_rfl) ?_ ?_; rotate_left; (focus (first | assumption | (go_simp; done) | (go_simp; with_reducible rfl))); simp only [Act.put, List.setIfInBounds_toArray, List.set_cons_zero, List.set_cons_succ])
          | (refine Txt.tl_alloc (by rfl) ?_; go_simp; refine ⟨by (first | exact Txt.Le.alloc_drew _ _ | exact Txt.Le.alloc _ _), ?_⟩))
        refine Txt.tl_loadRow (by rfl) (by rfl) (by rfl) R1.out (by rw [L1.out]; kernel_rfl) ?_
        simp only [Act.put, List.setIfInBounds_toArray, List.set_cons_zero, List.set_cons_succ]
        repeat (first
          | (refine Txt.tl_pure (v := ?_) (by rfl) ?_ ?_; rotate_left; (focus (intro _; go_simp; try with_reducible rfl)); simp only [Act.put, List.setIfInBounds_toArray, List.set_cons_zero, List.set_cons_succ])
          | (refine Txt.tl_skip (by rfl) trivial ?_; simp only [Act.put, List.setIfInBounds_toArray, List.set_cons_zero, List.set_cons_succ])
          | (refine Txt.tl_load (v := ?_) (by rfl) (by rfl) (by rfl) (by kernel_rfl) ?_ ?_; rotate_left; (focus (first | assumption | (go_simp; done) | (go_simp; with_reducible rfl))); simp only [Act.put, List.setIfInBounds_toArray, List.set_cons_zero, List.set_cons_succ])
          | (refine Txt.tl_alloc (by rfl) ?_; go_simp; refine ⟨by (first | exact Txt.Le.alloc_drew _ _ | exact Txt.Le.alloc _ _), ?_⟩))
        refine Txt.tl_loadRow (by rfl) (by rfl) (by rfl) R2.out (by rw [L2.out]; kernel_rfl) ?_
        simp only [Act.put, List.setIfInBounds_toArray, List.set_cons_zero, List.set_cons_succ]
        repeat (first
          | (refine Txt.tl_pure (v := ?_) (by rfl) ?_ ?_; rotate_left; (focus (intro _; go_simp; try with_reducible rfl)); simp only [Act.put, List.setIfInBounds_toArray, List.set_cons_zero, List.set_cons_succ])
          | (refine Txt.tl_skip (by rfl) trivial ?_; simp only [Act.put, List.setIfInBounds_toArray, List.set_cons_zero, List.set_cons_succ])
          | (refine Txt.tl_load (v := ?_) (by rfl) (by rfl) (by rfl) (by kernel_rfl) ?_ ?_; rotate_left; (focus (first | assumption | (go_simp; done) | (go_simp; with_reducible rfl))); simp only [Act.put, List.setIfInBounds_toArray, List.set_cons_zero, List.set_cons_succ])
          | (refine Txt.tl_alloc (by rfl) ?_; go_simp; refine ⟨by (first | exact Txt.Le.alloc_drew _ _ | exact Txt.Le.alloc _ _), ?_⟩))
        refine Txt.tl_nil ?_
        go_wp2
        go_ret
        refine ⟨?_, HKw.out.drew⟩
        rw [plc_at (by rw [Hy.out, HE.out]) HB.out]
        rfl
      · have HE : Hid (y ≠ x) := he
        have heb : (y == x) = false := by simpa using he
        rw [heb] at hcmp
        clear he heb
        go_wp2
        refine Txt.wp_region_text (fun _ => True) [0, 0, 0, 1, 1, 0] (by kernel_rfl) (by kernel_rfl) trivial ?_
        repeat (first
          | (refine Txt.tl_pure (v := ?_) (by rfl) ?_ ?_; rotate_left; (focus (intro _; go_simp; try with_reducible rfl)); simp only [Act.put, List.setIfInBounds_toArray, List.set_cons_zero, List.set_cons_succ])
          | (refine Txt.tl_skip (by rfl) trivial ?_; simp only [Act.put, List.setIfInBounds_toArray, List.set_cons_zero, List.set_cons_succ])
          | (refine Txt.tl_load (v := ?_) (by rfl) (by rfl) (by rfl) (by kernel_rfl) ?_ ?_; rotate_left; (focus (first | assumption | (go_simp; done) | (go_simp; with_reducible rfl))); simp only [Act.put, List.setIfInBounds_toArray, List.set_cons_zero, List.set_cons_succ])
          | (refine Txt.tl_alloc (by rfl) ?_; go_simp; refine ⟨by (first | exact Txt.Le.alloc_drew _ _ | exact Txt.Le.alloc _ _), ?_⟩))
        refine Txt.tl_loadRow (by rfl) (by rfl) (by rfl) R1.out (by rw [L1.out]; kernel_rfl) ?_
        simp only [Act.put, List.setIfInBounds_toArray, List.set_cons_zero, List.set_cons_succ]
        repeat (first
          | (refine Txt.tl_pure (v := ?_) (by rfl) ?_ ?_; rotate_left; (focus (intro _; go_simp; try with_reducible rfl)); simp only [Act.put, List.setIfInBounds_toArray, List.set_cons_zero, List.set_cons_succ])
          | (refine Txt.tl_skip (by rfl) trivial ?_; simp only [Act.put, List.setIfInBounds_toArray, List.set_cons_zero, List.set_cons_succ])
          | (refine Txt.tl_load (v := ?_) (by rfl) (by rfl) (by rfl) (by kernel_rfl) ?_ ?_; rotate_left; (focus (first | assumption | (go_simp; done) | (go_simp; with_reducible rfl))); simp only [Act.put, List.setIfInBounds_toArray, List.set_cons_zero, List.set_cons_succ])
          | (refine Txt.tl_alloc (by rfl) ?_; go_simp; refine ⟨by (first | exact Txt.Le.alloc_drew _ _ | exact Txt.Le.alloc _ _), ?_⟩))
        refine Txt.tl_loadRow (by rfl) (by rfl) (by rfl) R2.out (by rw [L2.out]; kernel_rfl) ?_
        simp only [Act.put, List.setIfInBounds_toArray, List.set_cons_zero, List.set_cons_succ]
        repeat (first
          | (refine Txt.tl_pure (v := ?_) (by rfl) ?_ ?_; rotate_left; (focus (intro _; go_simp; try with_reducible rfl)); simp only [Act.put, List.setIfInBounds_toArray, List.set_cons_zero, List.set_cons_succ])
          | (refine Txt.tl_skip (by rfl) trivial ?_; simp only [Act.put, List.setIfInBounds_toArray, List.set_cons_zero, List.set_cons_succ])
          | (refine Txt.tl_load (v := ?_) (by rfl) (by rfl) (by rfl) (by kernel_rfl) ?_ ?_; rotate_left; (focus (first | assumption | (go_simp; done) | (go_simp; with_reducible rfl))); simp only [Act.put, List.setIfInBounds_toArray, List.set_cons_zero, List.set_cons_succ])
          | (refine Txt.tl_alloc (by rfl) ?_; go_simp; refine ⟨by (first | exact Txt.Le.alloc_drew _ _ | exact Txt.Le.alloc _ _), ?_⟩))
        refine Txt.tl_nil ?_
        go_wp2
        go_roundw
        case rel =>
          refine ⟨k + 1, by omega, by go_num, HK.out.drew, fun j z hj hz => ?_⟩
          rcases Nat.lt_or_ge j k with h1 | h1
          · exact HB.out j z h1 hz
          · obtain rfl : j = k := by omega
            rw [Hy.out] at hz
            rw [← Option.some.inj hz]
            exact HE.out
        case measure => simp [intOf]; omega
    · obtain rfl : k = n := by omega
      have HZ : Hid (plc els x = -1) := plc_none (fun hc => by
        obtain ⟨i, hi⟩ := List.getElem?_of_mem hc
        have := (List.getElem?_eq_some_iff.1 hi).1
        exact HB.out i x (by rw [HN.out] at this; omega) hi rfl)
      go_wp2
      go_ret
      exact ⟨by rw [HZ.out]; rfl, HKw.out⟩
end Sq
end Go.Proofs.Ytgpimeobkacniaa
