/-
  The pen: Put.
-/
import Derived.Test.YtpchpdnjgdpdgaaGreatDoorPn5
set_option linter.unusedVariables false
set_option linter.unusedSimpArgs false
namespace Go.Proofs.YtpchpdnjgdpdgaaGreatDoor
open Go.RowKit
namespace St
section
variable {T : TypeId} {n : Nat} {Z : Array Value}
/-- What a function answers whose first of three results is a struct, in a variable of its own. -/
theorem res3 (hT : Ty T n Z) {fn : Func} {p q r : Tmp} (h : fn.results = #[.cell p T, .tmp q, .tmp r]) (tmps : Array Value) (w : World) (g : Nat) (cs : Array Value) (hc : cs.size = n) (hp : tmps.getD p undef = .pointer (some ⟨g, 0, none⟩)) {fr : Nat × Nat} (hg : w.heap[g]? = some (.cells cs T fr)) (e f : Value) (hq : tmps.getD q undef = e) (hr : tmps.getD r undef = f) :
    (results fn tmps).run Tryz.prog w = .ok (.tuple #[.agg cs, e, f]) w := by
  have hp' : tmps[p]?.getD undef = .pointer (some ⟨g, 0, none⟩) := by simpa using hp
  have hq' : tmps[q]?.getD undef = e := by simpa using hq
  have hr' : tmps[r]?.getD undef = f := by simpa using hr
  obtain ⟨d, hu, hd⟩ := hT.und
  simp [results, h, hp', hq', hr', asAddr, run_loadVar_row w g _ _ cs fr _ hg hu (by cases d <;> simp_all) (by rw [hT.sz, hc])]
end
end St
namespace Txt
theorem tl_build {P : Program} {ops : Array Oper} {S : World → Prop} {Q : Act → World → Prop} {o : Oper} {rest : List Oper} {ts : List Nat} {a : Act} {w : World} {v : Value} (hw : Region.wanted o (yielded ops a.tmps) = true) {T : TypeId} {parts : Array (Nat × Operand)} (ho : o.op = .build T parts) (ps : Array (Nat × Value)) (hp : (parts.toList.map fun (i, x) => (i, a.eval x)) = ps.toList) (hr : ∀ w2, (Instr.build T ps).run P w2 = .ok v w2)
    (k : wpTG P ops S Q rest ts (a.put o.dst v) w) : wpTG P ops S Q (o :: rest) (0 :: ts) a w :=
  tl_pure hw (fun w2 => by
    have e : (parts.map fun (i, x) => (i, a.eval x)) = ps := Array.toList_inj.1 (by rw [Array.toList_map]; exact hp)
    unfold execOp
    simp only [ho, e, Sem.run_bind, hr, Result.andThen_ok, Sem.run_pure]) k
end Txt
namespace Pn
open Oct Ids Gn Hd
open Mem (M It blk ids rows)
theorem penToI {w w' : World} {b : Nat} {v : Value} {L : List Wt} {v' : Value} {L' : List Wt} {lost' : Int} {it : List It} (h : M (foot b v L) w w' it) (i : Nat) (hi : it[i]? = some (penI b v' L' lost')) : PenTo w w' b v L v' L' lost' :=
  ⟨h.get i hi, h.keep, fun k hk => by
    have := h.rng i _ hi k hk
    rcases this.1 with h1 | h1
    · exact .inr ⟨h1, this.2⟩
    · exact .inl h1⟩
theorem hd_set (pv : Value) (G : Int) (T : ByteArray) (A Q Z : Int) (m : List UInt8) (v : Value) : (hd pv G T A Q Z m).toArray.setIfInBounds 0 v = (hd v G T A Q Z m).toArray := by
  rw [List.setIfInBounds_toArray]
  rfl
theorem keep_new {w w1 : World} {b : Nat} (k : Keep (fun _ => False) w w1) (hb : w.heap.size ≤ b) (cs : Array Value) : Keep (fun _ => False) w (w1.setRow b cs) :=
  k.trans' ((Keep.refl (fun k => k = b) _).setRow b cs (fun _ => rfl)) (fun _ _ h => h) (fun j hj (e : j = b) => by omega)
section
variable (w : World) (hF : Sha.TabF w) (hK : Sha.TabK w) (b : Nat) (pv : Value) (L : List Wt) (lost : Int) (hp : PenAt w b pv L lost) (hl : L.length ≤ 900)
  (a : Option Addr) (n c : Nat) (l : List (List UInt8)) (G : Int) (T : ByteArray) (A Q Z : Int) (m : List UInt8) (fr : Int) (h : At w a n l) (hm : m.length = 32) (hn : n ≤ 1000000) (hT : T.size ≤ maxLen)
include hF hK hp hl h hm hn hT
omit hl in
set_option maxRecDepth 100000 in
set_option maxHeartbeats 2000000 in
theorem put_bad (v : Int) (hv : ck n l G T A Q Z = v) (hv0 : v ≠ 0) :
    Calls Tryz.prog 9 #[.pointer (some ⟨b, 0, none⟩), .agg (hd (.slice a n c) G T A Q Z m).toArray, .int .i64 fr] w fun e w' => e = .returned (.tuple #[idv Z32, .bool false, .int .i64 v]) ∧ Keep (fun _ => False) w w' := by
  have hv1 : (v != 0) = true := by simpa using hv0
  have HP : Hid (PenAt w b pv L lost) := hp
  have A1 : Hid (At w a n l) := h
  have HF : Hid (Sha.TabF w) := hF
  have HK : Hid (Sha.TabK w) := hK
  have Hm : Hid (m.length = 32) := hm
  have HM : Hid (M (foot b pv L) w _ [blk b (pc pv lost), rows 71 71 we pv L, pars L, blk w.heap.size (.cells (hd (.slice a n c) G T A Q Z m).toArray 30), blk (w.heap.size + 1) (.cells z32 28)]) := (hp.all.alloc (.cells (hd (.slice a n c) G T A Q Z m).toArray 30) rfl).alloc (.cells z32 28) (by simp)
  generalize hX : (hd (.slice a n c) G T A Q Z m).toArray = X at HM ⊢
  have HX : Hid ((hd (.slice a n c) G T A Q Z m).toArray = X) := hX
  have KW : Hid (Keep (fun _ => False) w ((w.alloc (.cells X 30)).alloc (.cells z32 28))) := ((Keep.refl _ _).alloc _).alloc _
  clear hX
  have HI : Hid (∀ w, Sha.TabF w → Sha.TabK w → At w a n l → Calls Tryz.prog 37 #[.agg (hd (.slice a n c) G T A Q Z m).toArray] w fun e w' => e = .returned (.tuple #[idv Z32, .int .i64 v]) ∧ Keep (fun _ => False) w w') := fun w _ _ h => ident_bad w a n c l G T A Q Z m h hm hn hT v hv hv0
  obtain ⟨u, hu⟩ : ∃ u, Z32 = u := ⟨_, rfl⟩
  have Hum : Hid ((u.map bv).toArray.size = 32) := by show _ = _; rw [← hu]; rfl
  have HU : Hid _ := hu
  rw [hu] at HI
  clear h hm hn hT hv hv0 hp hF hK hu
  go_enter Tryz.func9, Tryz.ntmps9
  go_wp2_with (first | ((with_reducible refine at_load 30 ?_); refine St.wl_load tyH (by rfl) rfl rfl (h_at HM.out 3 rfl HX.out Hm.out).all (hd_len _ _ _ _ _ _ _ Hm.out) ?_; simp only [Act.put, List.setIfInBounds_toArray, List.set_cons_zero, List.set_cons_succ]) | (refine St.wl_alloc tyI rfl rfl (by (try simp only [World.size_alloc]); rfl) ?_; simp only [Act.put, List.setIfInBounds_toArray, List.set_cons_zero, List.set_cons_succ]) | (go_at_call 36; refine (none_ok (mk3 (HM.out.take 3))).mono ?_; rintro e w1 ⟨rfl, rfl⟩) | (go_at_call 37; refine (HI.out _ (HF.out.keep KW.out (fun h => h)) (HK.out.keep KW.out (fun h => h)) (A1.out.calm KW.out)).mono ?_; rintro e w2 ⟨rfl, k2⟩; have HM : Hid _ := HM.out.calm k2; have KW : Hid _ := KW.out.trans k2; clear k2) | (refine St.wl_storeN (W := w2) tyI rfl rfl rfl rfl rfl (by (try simp only [World.size_alloc])) (show _ = Value.agg (u.map bv).toArray from rfl) Hum.out rfl (one_bv _) ?_; have HM : Hid _ := HM.out.alloc (.cells (u.map bv).toArray 28) rfl; have KW : Hid _ := KW.out.alloc (.cells (u.map bv).toArray 28)) | (refine St.wl_buildV (T := 28) (parts := #[]) rfl rfl (cs := z32) (by kernel_rfl) ?_; simp only [Act.put, List.setIfInBounds_toArray, List.set_cons_zero, List.set_cons_succ]) | (refine St.wl_store tyI rfl rfl rfl rfl rfl (cs := z32) rfl (one_bv (List.replicate 32 0)) (HM.out.get 4 rfl) rfl ?_; have HM : Hid _ := HM.out.setr 4 rfl z32))
  refine bodyPost_ret (St.res3 tyI rfl _ _ _ z32 rfl rfl (HM.out.get 4 rfl) _ _ rfl rfl) rfl ?_
  exact ⟨rfl, keep_new KW.out (Nat.le_succ _) _⟩
set_option maxRecDepth 100000 in
set_option maxHeartbeats 2000000 in
theorem put_has (hv : ck n l G T A Q Z = 0) (hh : L.any (fun x => x.id == iv n l G T A Q Z m) = true) :
    Calls Tryz.prog 9 #[.pointer (some ⟨b, 0, none⟩), .agg (hd (.slice a n c) G T A Q Z m).toArray, .int .i64 fr] w fun e w' => e = .returned (.tuple #[idv Z32, .bool false, .int .i64 0]) ∧ Keep (fun _ => False) w w' := by
  have HP : Hid (PenAt w b pv L lost) := hp
  have A1 : Hid (At w a n l) := h
  have HF : Hid (Sha.TabF w) := hF
  have HK : Hid (Sha.TabK w) := hK
  have Hm : Hid (m.length = 32) := hm
  have HM : Hid (M (foot b pv L) w _ [blk b (pc pv lost), rows 71 71 we pv L, pars L, blk w.heap.size (.cells (hd (.slice a n c) G T A Q Z m).toArray 30), blk (w.heap.size + 1) (.cells z32 28)]) := (hp.all.alloc (.cells (hd (.slice a n c) G T A Q Z m).toArray 30) rfl).alloc (.cells z32 28) (by simp)
  generalize hX : (hd (.slice a n c) G T A Q Z m).toArray = X at HM ⊢
  have HX : Hid ((hd (.slice a n c) G T A Q Z m).toArray = X) := hX
  have KW : Hid (Keep (fun _ => False) w ((w.alloc (.cells X 30)).alloc (.cells z32 28))) := ((Keep.refl _ _).alloc _).alloc _
  clear hX
  have HI : Hid (∀ w, Sha.TabF w → Sha.TabK w → At w a n l → Calls Tryz.prog 37 #[.agg (hd (.slice a n c) G T A Q Z m).toArray] w fun e w' => e = .returned (.tuple #[idv (iv n l G T A Q Z m), .int .i64 0]) ∧ Keep (fun _ => False) w w') := fun w hF hK h => hv ▸ ident_any w hF hK a n c l G T A Q Z m h hm hn hT
  have hul := iv_len n l G T A Q Z m
  obtain ⟨u, hu⟩ : ∃ u, iv n l G T A Q Z m = u := ⟨_, rfl⟩
  rw [hu] at HI hul hh
  have Hul : Hid (u.length = 32) := hul
  have Hum : Hid ((u.map bv).toArray.size = 32) := by show _ = _; rw [List.size_toArray, List.length_map]; exact hul
  have HH : Hid (L.any (fun x => x.id == u) = true) := hh
  have Hl : Hid (L.length ≤ 1000000) := (by omega : L.length ≤ 1000000)
  clear h hm hn hT hv hp hF hK hu hul hh
  go_enter Tryz.func9, Tryz.ntmps9
  go_wp2_with (first | ((with_reducible refine at_load 30 ?_); refine St.wl_load tyH (by rfl) rfl rfl (h_at HM.out 3 rfl HX.out Hm.out).all (hd_len _ _ _ _ _ _ _ Hm.out) ?_; simp only [Act.put, List.setIfInBounds_toArray, List.set_cons_zero, List.set_cons_succ]) | (refine St.wl_alloc tyI rfl rfl (by (try simp only [World.size_alloc]); rfl) ?_; simp only [Act.put, List.setIfInBounds_toArray, List.set_cons_zero, List.set_cons_succ]) | (go_at_call 36; refine (none_ok (mk3 (HM.out.take 3))).mono ?_; rintro e w1 ⟨rfl, rfl⟩) | (go_at_call 37; refine (HI.out _ (HF.out.keep KW.out (fun h => h)) (HK.out.keep KW.out (fun h => h)) (A1.out.calm KW.out)).mono ?_; rintro e w2 ⟨rfl, k2⟩; have HM : Hid _ := HM.out.calm k2; have KW : Hid _ := KW.out.trans k2; clear k2) | (refine St.wl_storeN (W := w2) tyI rfl rfl rfl rfl rfl (by (try simp only [World.size_alloc])) (show _ = Value.agg (u.map bv).toArray from rfl) Hum.out rfl (one_bv _) ?_; have HM : Hid _ := HM.out.alloc (.cells (u.map bv).toArray 28) rfl; have KW : Hid _ := KW.out.alloc (.cells (u.map bv).toArray 28)) | (refine St.wl_buildV (T := 28) (parts := #[]) rfl rfl (cs := z32) (by kernel_rfl) ?_; simp only [Act.put, List.setIfInBounds_toArray, List.set_cons_zero, List.set_cons_succ]) | (refine St.wl_store tyI rfl rfl rfl rfl rfl (cs := z32) rfl (one_bv (List.replicate 32 0)) (HM.out.get 4 rfl) rfl ?_; have HM : Hid _ := HM.out.setr 4 rfl z32) | ((with_reducible refine at_load 28 ?_); refine wl_loadG (by rfl) rfl rfl Hul.out (HM.out.range 5 rfl) ?_; simp only [Act.put, List.setIfInBounds_toArray, List.set_cons_zero, List.set_cons_succ]) | (go_at_call 38; refine (phas _ b pv L lost (mk3 (HM.out.take 3)) Hl.out u Hul.out true HH.out).mono ?_; rintro e w3 ⟨rfl, k3⟩; have HM : Hid _ := HM.out.calm k3; have KW : Hid _ := KW.out.trans k3; clear k3))
  refine bodyPost_ret (St.res3 tyI rfl _ _ _ z32 rfl rfl (HM.out.get 4 rfl) _ _ rfl rfl) rfl ?_
  exact ⟨rfl, keep_new KW.out (Nat.le_succ _) _⟩
set_option maxRecDepth 100000 in
set_option maxHeartbeats 4000000 in
theorem put_new (hv : ck n l G T A Q Z = 0) (hh : L.any (fun x => x.id == iv n l G T A Q Z m) = false) (hlost : 0 ≤ lost ∧ lost ≤ 1000) :
    Calls Tryz.prog 9 #[.pointer (some ⟨b, 0, none⟩), .agg (hd (.slice a n c) G T A Q Z m).toArray, .int .i64 fr] w fun e w' => ∃ x v', x.n = n ∧ x.l = l ∧ x.G = G ∧ x.T = T ∧ x.A = A ∧ x.Q = Q ∧ x.Z = Z ∧ x.m = m ∧ x.fr = fr ∧ x.id = iv n l G T A Q Z m ∧
      ((L.length < 8 ∧ e = .returned (.tuple #[idv Z32, .bool false, .int .i64 0]) ∧ PenTo w w' b pv L v' (L ++ [x]) lost)
        ∨ (8 ≤ L.length ∧ ∃ y, (L ++ [x])[0]? = some y ∧ e = .returned (.tuple #[idv y.id, .bool true, .int .i64 0]) ∧ PenTo w w' b pv L v' ((L ++ [x]).drop 1) (min (lost + 1) 1000))) := by
  have HP : Hid (PenAt w b pv L lost) := hp
  have A1 : Hid (At w a n l) := h
  have HF : Hid (Sha.TabF w) := hF
  have HK : Hid (Sha.TabK w) := hK
  have Hm : Hid (m.length = 32) := hm
  have HM : Hid (M (foot b pv L) w _ [blk b (pc pv lost), rows 71 71 we pv L, pars L, blk w.heap.size (.cells (hd (.slice a n c) G T A Q Z m).toArray 30), blk (w.heap.size + 1) (.cells z32 28)]) := (hp.all.alloc (.cells (hd (.slice a n c) G T A Q Z m).toArray 30) rfl).alloc (.cells z32 28) (by simp)
  generalize hX : (hd (.slice a n c) G T A Q Z m).toArray = X at HM ⊢
  have HX : Hid ((hd (.slice a n c) G T A Q Z m).toArray = X) := hX
  have KW : Hid (Keep (fun _ => False) w ((w.alloc (.cells X 30)).alloc (.cells z32 28))) := ((Keep.refl _ _).alloc _).alloc _
  clear hX
  have HI : Hid (∀ w, Sha.TabF w → Sha.TabK w → At w a n l → Calls Tryz.prog 37 #[.agg (hd (.slice a n c) G T A Q Z m).toArray] w fun e w' => e = .returned (.tuple #[idv (iv n l G T A Q Z m), .int .i64 0]) ∧ Keep (fun _ => False) w w') := fun w hF hK h => hv ▸ ident_any w hF hK a n c l G T A Q Z m h hm hn hT
  have hul := iv_len n l G T A Q Z m
  obtain ⟨u, hu⟩ : ∃ u, iv n l G T A Q Z m = u := ⟨_, rfl⟩
  rw [hu] at HI hul hh
  have Hul : Hid (u.length = 32) := hul
  have Hum : Hid ((u.map bv).toArray.size = 32) := by show _ = _; rw [List.size_toArray, List.length_map]; exact hul
  have HH : Hid (L.any (fun x => x.id == u) = false) := hh
  have Hl : Hid (L.length ≤ 1000000) := (by omega : L.length ≤ 1000000)
  have Hn : Hid (n ≤ 1000000) := hn
  have Hln : Hid (l.length = n) := h.len
  have g0 : (((w.alloc (.cells X 30)).alloc (.cells z32 28))).cell? ⟨w.heap.size, 0, none⟩ = some (.slice a n c) := (h_at HM.out 3 rfl HX.out Hm.out).cells.1
  rw [hu]
  clear h hm hn hT hv hp hF hK hu hul hh
  go_enter Tryz.func9, Tryz.ntmps9
  go_wp2_with (first | ((with_reducible refine at_load 30 ?_); refine St.wl_load tyH (by rfl) rfl rfl (h_at HM.out 3 rfl HX.out Hm.out).all (hd_len _ _ _ _ _ _ _ Hm.out) ?_; simp only [Act.put, List.setIfInBounds_toArray, List.set_cons_zero, List.set_cons_succ]) | (refine St.wl_alloc tyI rfl rfl (by (try simp only [World.size_alloc]); rfl) ?_; simp only [Act.put, List.setIfInBounds_toArray, List.set_cons_zero, List.set_cons_succ]) | (go_at_call 36; refine (none_ok (mk3 (HM.out.take 3))).mono ?_; rintro e w1 ⟨rfl, rfl⟩) | (go_at_call 37; refine (HI.out _ (HF.out.keep KW.out (fun h => h)) (HK.out.keep KW.out (fun h => h)) (A1.out.calm KW.out)).mono ?_; rintro e w2 ⟨rfl, k2⟩; have HM : Hid _ := HM.out.calm k2; have KW : Hid _ := KW.out.trans k2; clear k2) | (refine St.wl_storeN (W := w2) tyI rfl rfl rfl rfl rfl (by (try simp only [World.size_alloc])) (show _ = Value.agg (u.map bv).toArray from rfl) Hum.out rfl (one_bv _) ?_; have HM : Hid _ := HM.out.alloc (.cells (u.map bv).toArray 28) rfl; have KW : Hid _ := KW.out.alloc (.cells (u.map bv).toArray 28)) | (refine St.wl_buildV (T := 28) (parts := #[]) rfl rfl (cs := z32) (by kernel_rfl) ?_; simp only [Act.put, List.setIfInBounds_toArray, List.set_cons_zero, List.set_cons_succ]) | (refine St.wl_store tyI rfl rfl rfl rfl rfl (cs := z32) rfl (one_bv (List.replicate 32 0)) (HM.out.get 4 rfl) rfl ?_; have HM : Hid _ := HM.out.setr 4 rfl z32) | ((with_reducible refine at_load 28 ?_); refine wl_loadG (by rfl) rfl rfl Hul.out (HM.out.range 5 rfl) ?_; simp only [Act.put, List.setIfInBounds_toArray, List.set_cons_zero, List.set_cons_succ]) | (go_at_call 38; refine (phas _ b pv L lost (mk3 (HM.out.take 3)) Hl.out u Hul.out false HH.out).mono ?_; rintro e w3 ⟨rfl, k3⟩; have HM : Hid _ := HM.out.calm k3; have KW : Hid _ := KW.out.trans k3; have g0 := (h_at HM.out 3 rfl HX.out Hm.out).cells.1; have f0 := HM.out.free 3 rfl 0; clear k3) | (go_at_call 39; refine (clone_any _ a n c l (A1.out.calm KW.out) Hn.out).mono ?_; rintro e w4 ⟨v4, rfl, n4⟩; obtain ⟨a4, c4, e4, at4, _⟩ := n4.1.at; subst e4; have HM : Hid _ := HM.out.add (x := ids (.slice a4 l.length c4) l) n4.2.1 n4.1 (fun k hk => ⟨n4.2.2 k hk, n4.1.lt hk⟩); have KW : Hid _ := KW.out.trans n4.2.1; have g0 := (h_at HM.out 3 rfl HX.out Hm.out).cells.1; have f0 := HM.out.free 3 rfl 0; clear n4 at4))
  have HM : Hid _ := HM.out.setc 3 rfl 0 (.slice a4 l.length c4)
  have hX3 : X.setIfInBounds 0 (.slice a4 l.length c4) = (hd (.slice a4 l.length c4) G T A Q Z m).toArray := by rw [← HX.out]; exact hd_set _ _ _ _ _ _ _ _
  rw [hX3] at HM
  clear hX3 g0 f0
  obtain ⟨x, hx⟩ : ∃ x : Wt, (⟨a4, l.length, c4, l, G, T, A, Q, Z, m, Hm.out, u, Hul.out, fr⟩ : Wt) = x := ⟨_, rfl⟩
  have Hxx : Hid _ := hx
  have hbW : ∀ w, (Instr.build 71 #[(0, .agg (hd (.slice a4 l.length c4) G T A Q Z m).toArray), (1, .agg (u.map bv).toArray), (2, .int .i64 fr)]).run Tryz.prog w = .ok (.agg (we x).toArray) w := fun w => by rw [← hx]; exact run_we ⟨a4, l.length, c4, l, G, T, A, Q, Z, m, Hm.out, u, Hul.out, fr⟩ w
  clear hx
  have c0 := HM.out.drew.cell 0 rfl 0 (v := pv) rfl
  refine Txt.wp_region_text1 (fun w' => w'.cell? ⟨b, 0, none⟩ = some pv) [0, 0, 0, 0, 1, 1, 1, 0, 0, 3, 4, 0, 0, 4] (by kernel_rfl) (by kernel_rfl) c0 ?_
  simp only [List.dropLast]
  have HM : Hid _ := HM.out.drew
  (repeat (first | (refine Txt.tl_pure (v := ?_) (by rfl) ?_ ?_; rotate_left; (focus (intro _; go_simp; try with_reducible rfl)); simp only [Act.put, List.setIfInBounds_toArray, List.set_cons_zero, List.set_cons_succ]) | (refine Txt.tl_load (v := ?_) (by rfl) (by rfl) (by rfl) (by kernel_rfl) ?_ ?_; rotate_left; (focus assumption); simp only [Act.put, List.setIfInBounds_toArray, List.set_cons_zero, List.set_cons_succ]) | (refine Txt.tl_loadS (v := ?_) (by rfl) (by rfl) (by rfl) (by kernel_rfl) ?_ ?_; rotate_left; (focus (exact fun _ h => h)); simp only [Act.put, List.setIfInBounds_toArray, List.set_cons_zero, List.set_cons_succ])))
  refine Txt.tl_rowN (n := 38) (ty := 30) (by rfl) (by rfl) (by rfl) (h_at HM.out 3 rfl rfl Hm.out).all (by kernel_rfl) (hd_len _ _ _ _ _ _ _ Hm.out) ?_
  simp only [Act.put, List.setIfInBounds_toArray, List.set_cons_zero, List.set_cons_succ]
  (repeat (first | (refine Txt.tl_pure (v := ?_) (by rfl) ?_ ?_; rotate_left; (focus (intro _; go_simp; try with_reducible rfl)); simp only [Act.put, List.setIfInBounds_toArray, List.set_cons_zero, List.set_cons_succ]) | (refine Txt.tl_load (v := ?_) (by rfl) (by rfl) (by rfl) (by kernel_rfl) ?_ ?_; rotate_left; (focus assumption); simp only [Act.put, List.setIfInBounds_toArray, List.set_cons_zero, List.set_cons_succ]) | (refine Txt.tl_loadS (v := ?_) (by rfl) (by rfl) (by rfl) (by kernel_rfl) ?_ ?_; rotate_left; (focus (exact fun _ h => h)); simp only [Act.put, List.setIfInBounds_toArray, List.set_cons_zero, List.set_cons_succ])))
  refine Txt.tl_rowN (n := 32) (ty := 28) (by rfl) (by rfl) (by rfl) (HM.out.range 5 rfl) (by kernel_rfl) (by rw [List.length_map]; exact Hul.out) ?_
  simp only [Act.put, List.setIfInBounds_toArray, List.set_cons_zero, List.set_cons_succ]
  (repeat (first | (refine Txt.tl_pure (v := ?_) (by rfl) ?_ ?_; rotate_left; (focus (intro _; go_simp; try with_reducible rfl)); simp only [Act.put, List.setIfInBounds_toArray, List.set_cons_zero, List.set_cons_succ]) | (refine Txt.tl_load (v := ?_) (by rfl) (by rfl) (by rfl) (by kernel_rfl) ?_ ?_; rotate_left; (focus assumption); simp only [Act.put, List.setIfInBounds_toArray, List.set_cons_zero, List.set_cons_succ]) | (refine Txt.tl_loadS (v := ?_) (by rfl) (by rfl) (by rfl) (by kernel_rfl) ?_ ?_; rotate_left; (focus (exact fun _ h => h)); simp only [Act.put, List.setIfInBounds_toArray, List.set_cons_zero, List.set_cons_succ])))
  refine Txt.tl_build (by rfl) rfl #[(0, .agg (hd (.slice a4 l.length c4) G T A Q Z m).toArray), (1, .agg (u.map bv).toArray), (2, .int .i64 fr)] rfl hbW ?_
  simp only [Act.put, List.setIfInBounds_toArray, List.set_cons_zero, List.set_cons_succ]
  refine Txt.tl_alloc (by rfl) ?_
  refine St.wp_build slW (by decide) rfl (W_enc.len x) rfl ?_
  have HM : Hid _ := HM.out.alloc (.cells (we x).toArray 71) rfl
  refine ⟨⟨Txt.Le.alloc _ _, HM.out.cell 0 rfl 0 rfl⟩, ?_⟩
  simp only [Act.put, List.setIfInBounds_toArray, List.set_cons_zero, List.set_cons_succ]
  refine Txt.tl_loud (by rfl) ?_
  refine St.wp_app1 slW (by decide) rfl rfl (HM.out.get 1 rfl) rfl (W_enc.len x) (W_enc.all x) (heap_alloc_new _ _) Hl.out ?_
  intro v6 w6 h1 k1 h3
  obtain ⟨a6, c6, e6, _⟩ := h1.any
  subst e6
  have HM : Hid _ := HM.out.appR 1 rfl h1 k1 h3
  clear h1 k1 h3
  refine ⟨HM.out.cell 0 rfl 0 rfl, ?_⟩
  simp only [Act.put, List.setIfInBounds_toArray, List.set_cons_zero, List.set_cons_succ]
  (repeat (first | (refine Txt.tl_pure (v := ?_) (by rfl) ?_ ?_; rotate_left; (focus (intro _; go_simp; try with_reducible rfl)); simp only [Act.put, List.setIfInBounds_toArray, List.set_cons_zero, List.set_cons_succ]) | (refine Txt.tl_load (v := ?_) (by rfl) (by rfl) (by rfl) (by kernel_rfl) ?_ ?_; rotate_left; (focus assumption); simp only [Act.put, List.setIfInBounds_toArray, List.set_cons_zero, List.set_cons_succ]) | (refine Txt.tl_loadS (v := ?_) (by rfl) (by rfl) (by rfl) (by kernel_rfl) ?_ ?_; rotate_left; (focus (exact fun _ h => h)); simp only [Act.put, List.setIfInBounds_toArray, List.set_cons_zero, List.set_cons_succ])))
  refine Txt.tl_nil ?_
  refine Txt.tl_last (by rfl) (by rfl) ?_
  have f0 := HM.out.free 0 rfl 0
  have c0 := HM.out.cell 0 rfl 0 (v := pv) rfl
  go_simp
  have HM : Hid _ := setv HM.out 0 rfl (.slice a6 (L.length + 1) c6)
  have eL : (L ++ [x]).length = L.length + 1 := by simp
  rw [eL] at HM
  clear f0 c0 eL
  obtain ⟨k, hk⟩ : ∃ k, L.length + 1 = k := ⟨_, rfl⟩
  rw [hk] at HM ⊢
  have HMs : Hid (M (foot b pv L) w (w6.setCell ⟨b, 0, none⟩ (.slice a6 k c6)) ([blk (w.heap.size + 1) (.cells z32 28), blk b (pc (.slice a6 k c6) lost), rows 71 71 we (.slice a6 k c6) (L ++ [x])] ++ [pars L, ids (.slice x.a x.n x.c) x.l])) := by
    rw [← Hxx.out] at HM ⊢
    exact HM.out.sub _ [4, 0, 1, 2, 6] (by decide) rfl
  have HM : Hid (M (foot b pv L) w (w6.setCell ⟨b, 0, none⟩ (.slice a6 k c6)) [blk (w.heap.size + 1) (.cells z32 28), blk b (pc (.slice a6 k c6) lost), rows 71 71 we (.slice a6 k c6) (L ++ [x]), pars (L ++ [x])]) := add_par HMs.out
  clear HMs
  have Hk : Hid (L.length + 1 = k) := hk
  have hX : x.n = n ∧ x.l = l ∧ x.G = G ∧ x.T = T ∧ x.A = A ∧ x.Q = Q ∧ x.Z = Z ∧ x.m = m ∧ x.fr = fr ∧ x.id = u := by rw [← Hxx.out]; exact ⟨Hln.out, rfl, rfl, rfl, rfl, rfl, rfl, rfl, rfl, rfl⟩
  have HX2 : Hid _ := hX
  obtain ⟨W, hW⟩ : ∃ W, w6.setCell ⟨b, 0, none⟩ (.slice a6 k c6) = W := ⟨_, rfl⟩
  rw [hW] at HM ⊢
  clear hW hX
  have c0 := HM.out.cell 1 rfl 0 (v := .slice a6 k c6) rfl
  have c1 := HM.out.cell 1 rfl 1 (v := .int .i64 lost) rfl
  have f1 := HM.out.free 1 rfl 1
  by_cases hlt : k ≤ 8
  · have hki : (k : Int) ≤ 8 := by omega
    clear hk
    go_wp2_with (first | (refine St.wl_buildV (T := 28) (parts := #[]) rfl rfl (cs := z32) (by kernel_rfl) ?_; simp only [Act.put, List.setIfInBounds_toArray, List.set_cons_zero, List.set_cons_succ]) | (refine St.wl_store tyI rfl rfl rfl rfl rfl (cs := z32) rfl (one_bv (List.replicate 32 0)) (HM.out.get 0 rfl) rfl ?_; have HM : Hid _ := HM.out.setr 0 rfl z32))
    refine bodyPost_ret (St.res3 tyI rfl _ _ _ z32 rfl rfl (HM.out.get 0 rfl) _ _ rfl rfl) rfl ?_
    obtain ⟨x1, x2, x3, x4, x5, x6, x7, x8, x9, x10⟩ := HX2.out
    exact ⟨x, _, x1, x2, x3, x4, x5, x6, x7, x8, x9, x10, .inl ⟨by have := Hk.out; omega, rfl, penTo (HM.out.drop 1)⟩⟩
  · have hki : ¬ (k : Int) ≤ 8 := by omega
    obtain ⟨y, hy⟩ : ∃ y, (L ++ [x])[0]? = some y := ⟨_, List.getElem?_eq_getElem (by simp)⟩
    have hcut : Hid (∀ w v, PenAt w b v (L ++ [x]) (min (lost + 1) 1000) → Calls Tryz.prog 40 #[.pointer (some ⟨b, 0, none⟩), .int .i64 0] w fun e w' => e = .returned (.agg (we y).toArray) ∧ ∃ v', PenTo w w' b v (L ++ [x]) v' ((L ++ [x]).drop 1) (min (lost + 1) 1000)) := fun w v h => by
      have h8 := pcut2 w b v (L ++ [x]) (min (lost + 1) 1000) h (by rw [List.length_append]; simp; omega) 0 y hy
      rw [List.take_zero, List.nil_append] at h8
      exact h8.mono fun e w' h9 => ⟨h9.1, h9.2.imp fun v' h => h.1⟩
    have Hy : Hid _ := hy
    have HM : Hid (M (foot b pv L) w (W.setCell ⟨b, 1, none⟩ (.int .i64 (min (lost + 1) 1000))) ([blk (w.heap.size + 1) (.cells z32 28), penI b (.slice a6 k c6) (L ++ [x]) (min (lost + 1) 1000)])) := pack_pen (l := [blk (w.heap.size + 1) (.cells z32 28)]) (HM.out.setc 1 rfl 1 (.int .i64 (min (lost + 1) 1000)))
    have Hyl : Hid ((y.id.map bv).toArray.size = 32) := by show _ = _; rw [List.size_toArray, List.length_map, y.hid]
    clear hk hy
    go_wp2_with (first | (go_at_call 40; refine (hcut.out _ _ (HM.out.get 1 rfl)).mono ?_; rintro e w8 ⟨rfl, v8, t8⟩; have HM : Hid _ := M.pen HM.out 1 rfl t8; clear t8) | (refine St.wl_field rfl rfl rfl (run_fid y) ?_; simp only [Act.put, List.setIfInBounds_toArray, List.set_cons_zero, List.set_cons_succ]) | (refine St.wl_store tyI rfl rfl rfl rfl rfl (cs := (y.id.map bv).toArray) Hyl.out (one_bv _) (HM.out.get 0 rfl) rfl ?_; have HM : Hid _ := HM.out.setr 0 rfl (y.id.map bv).toArray))
    refine bodyPost_ret (St.res3 tyI rfl _ _ _ ((y.id.map bv).toArray) Hyl.out rfl (HM.out.get 0 rfl) _ _ rfl rfl) rfl ?_
    obtain ⟨x1, x2, x3, x4, x5, x6, x7, x8, x9, x10⟩ := HX2.out
    exact ⟨x, v8, x1, x2, x3, x4, x5, x6, x7, x8, x9, x10, .inr ⟨by have := Hk.out; omega, y, Hy.out, rfl, penToI HM.out 1 rfl⟩⟩
end
end Pn
end Go.Proofs.YtpchpdnjgdpdgaaGreatDoor
