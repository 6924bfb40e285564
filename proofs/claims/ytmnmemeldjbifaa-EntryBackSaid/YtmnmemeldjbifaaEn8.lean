/-
  entry.Of.
-/
import Derived.Test.YtmnmemeldjbifaaEn7
set_option linter.unusedVariables false
set_option linter.unusedSimpArgs false
namespace Go.Proofs.Ytmnmemeldjbifaa
open Go.RowKit
namespace En
open Oct Ids Ms
open Mem (M blk byt rd xr)
open Ref (endv)

theorem read_any (w : World) (b : Nat) (s : ByteArray) (a a1 a2 a3 : Nat) (bad b1 b2 b3 K : Int) (T B : ByteArray) (c : List UInt8) (hK : 1 ≤ K ∧ K ≤ 7) (h : IsR w b s a bad) (hT : rdT s a bad (pT K) = (T, a1, b1)) (hC : rdC s a1 b1 (pC K) = (c, a2, b2)) (hB : rdB s a2 b2 (decide (0 < pB K)) = (B, a3, b3)) :
    Calls Try.prog 63 #[.pointer (some ⟨b, 0, none⟩), .int .i64 K, .agg #[.bool (pT K), .bool (pC K), .int .i64 (pB K), .bool (pE K)]] w fun e w' => e = .returned (.agg (ec K T B c).toArray) ∧ IsR w' b s a3 b3 ∧ Keep (fun y => y = b) w w' := by
  rcases (by omega : K = 1 ∨ K = 2 ∨ K = 3 ∨ K = 4 ∨ K = 5 ∨ K = 6 ∨ K = 7) with rfl | rfl | rfl | rfl | rfl | rfl | rfl
  · exact read_1 w b s a a1 a2 a3 bad b1 b2 b3 T B c h hT hC hB
  · exact read_2 w b s a a1 a2 a3 bad b1 b2 b3 T B c h hT hC hB
  · exact read_3 w b s a a1 a2 a3 bad b1 b2 b3 T B c h hT hC hB
  · exact read_4 w b s a a1 a2 a3 bad b1 b2 b3 T B c h hT hC hB
  · exact read_5 w b s a a1 a2 a3 bad b1 b2 b3 T B c h hT hC hB
  · exact read_6 w b s a a1 a2 a3 bad b1 b2 b3 T B c h hT hC hB
  · exact read_7 w b s a a1 a2 a3 bad b1 b2 b3 T B c h hT hC hB
section
variable {F : Nat → Prop} {w0 w : World} {l : List Mem.It}
theorem M_read (h : M F w0 w l) (i : Nat) {b : Nat} {s : ByteArray} {a a1 a2 a3 : Nat} {bad b1 b2 b3 K : Int} {T B : ByteArray} {c : List UInt8} (hi : l[i]? = some (rd b s a bad)) (hK : 1 ≤ K ∧ K ≤ 7) (hT : rdT s a bad (pT K) = (T, a1, b1)) (hC : rdC s a1 b1 (pC K) = (c, a2, b2)) (hB : rdB s a2 b2 (decide (0 < pB K)) = (B, a3, b3)) :
    Calls Try.prog 63 #[.pointer (some ⟨b, 0, none⟩), .int .i64 K, .agg #[.bool (pT K), .bool (pC K), .int .i64 (pB K), .bool (pE K)]] w fun e w' => e = .returned (.agg (ec K T B c).toArray) ∧ M F w0 w' (l.set i (rd b s a3 b3)) := by
  refine (read_any w b s a a1 a2 a3 bad b1 b2 b3 K T B c hK (h.get i hi) hT hC hB).mono ?_
  rintro e w' ⟨rfl, h1, k1⟩
  exact ⟨rfl, h.upd i hi k1 (fun _ h => h) (y := rd b s a3 b3) h1 (fun k hk => .inl hk)⟩
end
theorem stP : St.Ty 91 4 #[.bool false, .bool false, .int .i64 0, .bool false] := ⟨⟨_, Try.underlying91, rfl⟩, by kernel_rfl, rfl⟩
/-- What 'Of' reads. -/
structure OE where
  e : Int
  K : Int
  T : ByteArray
  B : ByteArray
  c : List UInt8
def oz (e : Int) : OE := ⟨e, 0, ByteArray.empty, ByteArray.empty, Z32⟩
def ofe (s : ByteArray) : OE :=
  let x := rnum s 0 0 1
  if x.2.2 ≠ 0 then oz x.2.2
  else if (x.1 : Int) < 1 ∨ 7 < (x.1 : Int) then oz 10
  else
    let t := rdT s x.2.1 0 (pT x.1)
    let c := rdC s t.2.1 t.2.2 (pC x.1)
    let B := rdB s c.2.1 c.2.2 (decide (0 < pB x.1))
    if endv s B.2.1 B.2.2 ≠ 0 then oz (endv s B.2.1 B.2.2)
    else if ck x.1 t.1 B.1 c.1 ≠ 0 then oz (ck x.1 t.1 B.1 c.1)
    else ⟨0, x.1, t.1, B.1, c.1⟩
theorem rraw_le (s : ByteArray) (a : Nat) (b k : Int) : (rraw s a b k).1.size ≤ s.size := by
  unfold rraw
  split
  · exact Nat.zero_le _
  · split
    · exact Nat.zero_le _
    · split
      · exact Nat.zero_le _
      · rw [ByteArray.size_extract]; omega
theorem rdT_le (s : ByteArray) (a : Nat) (b : Int) (t : Bool) : (rdT s a b t).1.size ≤ s.size := by
  cases t
  · exact Nat.zero_le _
  · exact rraw_le _ _ _ _
theorem rdB_le (s : ByteArray) (a : Nat) (b : Int) (t : Bool) : (rdB s a b t).1.size ≤ s.size := by
  cases t
  · exact Nat.zero_le _
  · exact rraw_le _ _ _ _
theorem rdC_len (s : ByteArray) (a : Nat) (b : Int) (t : Bool) : (rdC s a b t).1.length = 32 := by
  cases t
  · rfl
  · exact pad_len _ (by rw [Array.length_toList]; exact rraw_32 s a b)
abbrev ev (o : OE) : Value := .tuple #[.agg (ec o.K o.T o.B o.c).toArray, .int .i64 o.e]
set_option maxRecDepth 100000 in
set_option maxHeartbeats 1000000 in
theorem ofE_any (w : World) (s : ByteArray) (hs : s.size ≤ maxLen) : Calls Try.prog 25 #[.string s] w fun e w' => e = .returned (ev (ofe s)) ∧ Keep (fun _ => False) w w' := by
  obtain ⟨⟨n, a1, b1⟩, hn⟩ : ∃ p, rnum s 0 0 1 = p := ⟨_, rfl⟩
  have Hn : Hid _ := hn
  have Hs : Hid _ := hs
  have HM : Hid (M (fun _ => False) w _ [blk w.heap.size (.cells (ec 0 ByteArray.empty ByteArray.empty Z32).toArray 43)]) := (M.start (fun _ => False) w).alloc _ rfl
  by_cases hb : b1 = 0
  case neg =>
    have e : ofe s = oz b1 := by unfold ofe; simp only [hn]; rw [if_pos hb]
    rw [e]
    have hb' : (b1 != 0) = true := by simpa using hb
    clear e hb hn hs
    go_enter Try.func25, Try.ntmps25
    go_wp2_with (first | (refine St.wl_alloc stE rfl rfl (by (try simp only [World.size_alloc]); rfl) ?_; simp only [Act.put, List.setIfInBounds_toArray, List.set_cons_zero, List.set_cons_succ]) | (go_at_call 32; refine (M.open HM.out s Hs.out (by (try simp only [World.size_alloc]); rfl)).mono ?_; rintro e w1 ⟨rfl, h⟩; have HM : Hid _ := h; clear h) | (go_at_call 33; refine (M.rnum HM.out 1 rfl Hn.out).mono ?_; rintro e w2 ⟨rfl, h⟩; have HM : Hid _ := h; clear h) | (go_at_call 34; refine (M.rerr HM.out 1 rfl).mono ?_; rintro e w3 ⟨rfl, rfl⟩) | (go_at_call 57; first | (refine (of_none _ n HKn.out).mono ?_; rintro e w4 ⟨rfl, k1⟩; have HM : Hid _ := (HM.out.calm k1).alloc (.cells #[.bool false, .bool false, .int .i64 0, .bool false] 91) rfl; clear k1) | (refine (of_any _ n HK7.out).mono ?_; rintro e w4 ⟨rfl, k1⟩; have HM : Hid _ := (HM.out.calm k1).alloc (.cells #[.bool (pT n), .bool (pC n), .int .i64 (pB n), .bool (pE n)] 91) rfl; clear k1)) | (refine St.wl_load stP (by rfl) rfl rfl (HM.out.range 2 rfl) rfl ?_; simp only [Act.put, List.setIfInBounds_toArray, List.set_cons_zero, List.set_cons_succ]) | (go_at_call 63; refine (M_read HM.out 1 rfl HK7.out HT.out HC.out HB.out).mono ?_; rintro e w5 ⟨rfl, h⟩; have HM : Hid _ := h; clear h) | (refine St.wl_storeN stE rfl rfl rfl rfl rfl (by (try simp only [World.size_alloc])) (show _ = Value.agg (ec n T B c).toArray from rfl) (ec_sz Hcl.out) (ec_sz rfl) (ec_one _ _ _ _) ?_; have HM : Hid _ := HM.out.alloc (.cells (ec n T B c).toArray 43) rfl) | (go_at_call 38; refine (M.rend HM.out 1 rfl Hf.out).mono ?_; rintro e w6 ⟨rfl, h⟩; have HM : Hid _ := h; clear h) | (refine St.wl_load stE (by rfl) rfl rfl (HM.out.range 3 rfl) (ec_len _ _ _ _ Hcl.out) ?_; simp only [Act.put, List.setIfInBounds_toArray, List.set_cons_zero, List.set_cons_succ]) | (go_at_call 23; refine (Hck.out _).mono ?_; rintro e w7 ⟨rfl, k1⟩; have HM : Hid _ := HM.out.calm k1; clear k1) | (refine St.wl_store stE rfl rfl rfl rfl (show _ = Value.agg (ec n T B c).toArray from rfl) (ec_sz Hcl.out) (ec_one _ _ _ _) (HM.out.get 0 rfl) (ec_sz rfl) ?_) | (refine St.wl_store stE rfl rfl rfl rfl (show _ = Value.agg (ec 0 ByteArray.empty ByteArray.empty Z32).toArray from rfl) (ec_sz rfl) (ec_one _ _ _ _) (HM.out.get 0 rfl) (ec_sz rfl) ?_))
    refine bodyPost_ret (St.res2 stE rfl _ _ w.heap.size (ec 0 ByteArray.empty ByteArray.empty Z32).toArray (ec_sz rfl) rfl ((HM.out.setr 0 rfl (ec 0 ByteArray.empty ByteArray.empty Z32).toArray).get 0 rfl) _ rfl) rfl ?_
    exact ⟨rfl, (HM.out.setr 0 rfl (ec 0 ByteArray.empty ByteArray.empty Z32).toArray).keep⟩
  subst hb
  have hn7 : (n : Int) < 256 := by have := rnum1_lt s 0 0; rw [hn] at this; simp only at this; omega
  by_cases hK : (n : Int) < 1 ∨ 7 < (n : Int)
  · have e : ofe s = oz 10 := by unfold ofe; simp only [hn]; rw [if_neg (by simp), if_pos hK]
    rw [e]
    have HKn : Hid _ := hK
    clear e hK hn hs
    go_enter Try.func25, Try.ntmps25
    go_wp2_with (first | (refine St.wl_alloc stE rfl rfl (by (try simp only [World.size_alloc]); rfl) ?_; simp only [Act.put, List.setIfInBounds_toArray, List.set_cons_zero, List.set_cons_succ]) | (go_at_call 32; refine (M.open HM.out s Hs.out (by (try simp only [World.size_alloc]); rfl)).mono ?_; rintro e w1 ⟨rfl, h⟩; have HM : Hid _ := h; clear h) | (go_at_call 33; refine (M.rnum HM.out 1 rfl Hn.out).mono ?_; rintro e w2 ⟨rfl, h⟩; have HM : Hid _ := h; clear h) | (go_at_call 34; refine (M.rerr HM.out 1 rfl).mono ?_; rintro e w3 ⟨rfl, rfl⟩) | (go_at_call 57; first | (refine (of_none _ n HKn.out).mono ?_; rintro e w4 ⟨rfl, k1⟩; have HM : Hid _ := (HM.out.calm k1).alloc (.cells #[.bool false, .bool false, .int .i64 0, .bool false] 91) rfl; clear k1) | (refine (of_any _ n HK7.out).mono ?_; rintro e w4 ⟨rfl, k1⟩; have HM : Hid _ := (HM.out.calm k1).alloc (.cells #[.bool (pT n), .bool (pC n), .int .i64 (pB n), .bool (pE n)] 91) rfl; clear k1)) | (refine St.wl_load stP (by rfl) rfl rfl (HM.out.range 2 rfl) rfl ?_; simp only [Act.put, List.setIfInBounds_toArray, List.set_cons_zero, List.set_cons_succ]) | (go_at_call 63; refine (M_read HM.out 1 rfl HK7.out HT.out HC.out HB.out).mono ?_; rintro e w5 ⟨rfl, h⟩; have HM : Hid _ := h; clear h) | (refine St.wl_storeN stE rfl rfl rfl rfl rfl (by (try simp only [World.size_alloc])) (show _ = Value.agg (ec n T B c).toArray from rfl) (ec_sz Hcl.out) (ec_sz rfl) (ec_one _ _ _ _) ?_; have HM : Hid _ := HM.out.alloc (.cells (ec n T B c).toArray 43) rfl) | (go_at_call 38; refine (M.rend HM.out 1 rfl Hf.out).mono ?_; rintro e w6 ⟨rfl, h⟩; have HM : Hid _ := h; clear h) | (refine St.wl_load stE (by rfl) rfl rfl (HM.out.range 3 rfl) (ec_len _ _ _ _ Hcl.out) ?_; simp only [Act.put, List.setIfInBounds_toArray, List.set_cons_zero, List.set_cons_succ]) | (go_at_call 23; refine (Hck.out _).mono ?_; rintro e w7 ⟨rfl, k1⟩; have HM : Hid _ := HM.out.calm k1; clear k1) | (refine St.wl_store stE rfl rfl rfl rfl (show _ = Value.agg (ec n T B c).toArray from rfl) (ec_sz Hcl.out) (ec_one _ _ _ _) (HM.out.get 0 rfl) (ec_sz rfl) ?_) | (refine St.wl_store stE rfl rfl rfl rfl (show _ = Value.agg (ec 0 ByteArray.empty ByteArray.empty Z32).toArray from rfl) (ec_sz rfl) (ec_one _ _ _ _) (HM.out.get 0 rfl) (ec_sz rfl) ?_))
    refine bodyPost_ret (St.res2 stE rfl _ _ w.heap.size (ec 0 ByteArray.empty ByteArray.empty Z32).toArray (ec_sz rfl) rfl ((HM.out.setr 0 rfl (ec 0 ByteArray.empty ByteArray.empty Z32).toArray).get 0 rfl) _ rfl) rfl ?_
    exact ⟨rfl, (HM.out.setr 0 rfl (ec 0 ByteArray.empty ByteArray.empty Z32).toArray).keep⟩
  have hK2 : 1 ≤ (n : Int) ∧ (n : Int) ≤ 7 := by omega
  obtain ⟨⟨T, a2, b2⟩, hT⟩ : ∃ p, rdT s a1 0 (pT n) = p := ⟨_, rfl⟩
  obtain ⟨⟨c, a3, b3⟩, hC⟩ : ∃ p, rdC s a2 b2 (pC n) = p := ⟨_, rfl⟩
  obtain ⟨⟨B, a4, b4⟩, hB⟩ : ∃ p, rdB s a3 b3 (decide (0 < pB n)) = p := ⟨_, rfl⟩
  obtain ⟨f, hf⟩ : ∃ f, endv s a4 b4 = f := ⟨_, rfl⟩
  obtain ⟨g, hg⟩ : ∃ g, ck n T B c = g := ⟨_, rfl⟩
  have hTl : T.size ≤ maxLen := by have := rdT_le s a1 0 (pT n); rw [hT] at this; exact Nat.le_trans this hs
  have hBl : B.size ≤ maxLen := by have := rdB_le s a3 b3 (decide (0 < pB n)); rw [hB] at this; exact Nat.le_trans this hs
  have hcl : c.length = 32 := by have := rdC_len s a2 b2 (pC n); rw [hC] at this; exact this
  have e : ofe s = if f ≠ 0 then oz f else if g ≠ 0 then oz g else ⟨0, n, T, B, c⟩ := by
    unfold ofe
    simp only [hn]
    rw [if_neg (by simp), if_neg hK]
    simp only [hT, hC, hB, hf, hg]
  have HK7 : Hid _ := hK2
  have HT : Hid _ := hT
  have HC : Hid _ := hC
  have HB : Hid _ := hB
  have Hf : Hid _ := hf
  have Hck : Hid (∀ w, _) := fun w => check_any w n T B c hcl hTl hBl
  rw [hg] at Hck
  have Hcl : Hid _ := hcl
  by_cases hf0 : f = 0
  case neg =>
    rw [e, if_pos hf0]
    have hf1 : (f == 0) = false := by simpa using hf0
    have hf2 : (f != 0) = true := by simpa using hf0
    clear e hf0 hK hn hs hT hC hB hf hg hTl hBl hcl hK2
    go_enter Try.func25, Try.ntmps25
    go_wp2_with (first | (refine St.wl_alloc stE rfl rfl (by (try simp only [World.size_alloc]); rfl) ?_; simp only [Act.put, List.setIfInBounds_toArray, List.set_cons_zero, List.set_cons_succ]) | (go_at_call 32; refine (M.open HM.out s Hs.out (by (try simp only [World.size_alloc]); rfl)).mono ?_; rintro e w1 ⟨rfl, h⟩; have HM : Hid _ := h; clear h) | (go_at_call 33; refine (M.rnum HM.out 1 rfl Hn.out).mono ?_; rintro e w2 ⟨rfl, h⟩; have HM : Hid _ := h; clear h) | (go_at_call 34; refine (M.rerr HM.out 1 rfl).mono ?_; rintro e w3 ⟨rfl, rfl⟩) | (go_at_call 57; first | (refine (of_none _ n HKn.out).mono ?_; rintro e w4 ⟨rfl, k1⟩; have HM : Hid _ := (HM.out.calm k1).alloc (.cells #[.bool false, .bool false, .int .i64 0, .bool false] 91) rfl; clear k1) | (refine (of_any _ n HK7.out).mono ?_; rintro e w4 ⟨rfl, k1⟩; have HM : Hid _ := (HM.out.calm k1).alloc (.cells #[.bool (pT n), .bool (pC n), .int .i64 (pB n), .bool (pE n)] 91) rfl; clear k1)) | (refine St.wl_load stP (by rfl) rfl rfl (HM.out.range 2 rfl) rfl ?_; simp only [Act.put, List.setIfInBounds_toArray, List.set_cons_zero, List.set_cons_succ]) | (go_at_call 63; refine (M_read HM.out 1 rfl HK7.out HT.out HC.out HB.out).mono ?_; rintro e w5 ⟨rfl, h⟩; have HM : Hid _ := h; clear h) | (refine St.wl_storeN stE rfl rfl rfl rfl rfl (by (try simp only [World.size_alloc])) (show _ = Value.agg (ec n T B c).toArray from rfl) (ec_sz Hcl.out) (ec_sz rfl) (ec_one _ _ _ _) ?_; have HM : Hid _ := HM.out.alloc (.cells (ec n T B c).toArray 43) rfl) | (go_at_call 38; refine (M.rend HM.out 1 rfl Hf.out).mono ?_; rintro e w6 ⟨rfl, h⟩; have HM : Hid _ := h; clear h) | (refine St.wl_load stE (by rfl) rfl rfl (HM.out.range 3 rfl) (ec_len _ _ _ _ Hcl.out) ?_; simp only [Act.put, List.setIfInBounds_toArray, List.set_cons_zero, List.set_cons_succ]) | (go_at_call 23; refine (Hck.out _).mono ?_; rintro e w7 ⟨rfl, k1⟩; have HM : Hid _ := HM.out.calm k1; clear k1) | (refine St.wl_store stE rfl rfl rfl rfl (show _ = Value.agg (ec n T B c).toArray from rfl) (ec_sz Hcl.out) (ec_one _ _ _ _) (HM.out.get 0 rfl) (ec_sz rfl) ?_) | (refine St.wl_store stE rfl rfl rfl rfl (show _ = Value.agg (ec 0 ByteArray.empty ByteArray.empty Z32).toArray from rfl) (ec_sz rfl) (ec_one _ _ _ _) (HM.out.get 0 rfl) (ec_sz rfl) ?_))
    refine bodyPost_ret (St.res2 stE rfl _ _ w.heap.size (ec 0 ByteArray.empty ByteArray.empty Z32).toArray (ec_sz rfl) rfl ((HM.out.setr 0 rfl (ec 0 ByteArray.empty ByteArray.empty Z32).toArray).get 0 rfl) _ rfl) rfl ?_
    exact ⟨rfl, (HM.out.setr 0 rfl (ec 0 ByteArray.empty ByteArray.empty Z32).toArray).keep⟩
  subst hf0
  by_cases hg0 : g = 0
  case neg =>
    rw [e, if_neg (by simp), if_pos hg0]
    have hg2 : (g != 0) = true := by simpa using hg0
    clear e hg0 hK hn hs hT hC hB hf hg hTl hBl hcl hK2
    go_enter Try.func25, Try.ntmps25
    go_wp2_with (first | (refine St.wl_alloc stE rfl rfl (by (try simp only [World.size_alloc]); rfl) ?_; simp only [Act.put, List.setIfInBounds_toArray, List.set_cons_zero, List.set_cons_succ]) | (go_at_call 32; refine (M.open HM.out s Hs.out (by (try simp only [World.size_alloc]); rfl)).mono ?_; rintro e w1 ⟨rfl, h⟩; have HM : Hid _ := h; clear h) | (go_at_call 33; refine (M.rnum HM.out 1 rfl Hn.out).mono ?_; rintro e w2 ⟨rfl, h⟩; have HM : Hid _ := h; clear h) | (go_at_call 34; refine (M.rerr HM.out 1 rfl).mono ?_; rintro e w3 ⟨rfl, rfl⟩) | (go_at_call 57; first | (refine (of_none _ n HKn.out).mono ?_; rintro e w4 ⟨rfl, k1⟩; have HM : Hid _ := (HM.out.calm k1).alloc (.cells #[.bool false, .bool false, .int .i64 0, .bool false] 91) rfl; clear k1) | (refine (of_any _ n HK7.out).mono ?_; rintro e w4 ⟨rfl, k1⟩; have HM : Hid _ := (HM.out.calm k1).alloc (.cells #[.bool (pT n), .bool (pC n), .int .i64 (pB n), .bool (pE n)] 91) rfl; clear k1)) | (refine St.wl_load stP (by rfl) rfl rfl (HM.out.range 2 rfl) rfl ?_; simp only [Act.put, List.setIfInBounds_toArray, List.set_cons_zero, List.set_cons_succ]) | (go_at_call 63; refine (M_read HM.out 1 rfl HK7.out HT.out HC.out HB.out).mono ?_; rintro e w5 ⟨rfl, h⟩; have HM : Hid _ := h; clear h) | (refine St.wl_storeN stE rfl rfl rfl rfl rfl (by (try simp only [World.size_alloc])) (show _ = Value.agg (ec n T B c).toArray from rfl) (ec_sz Hcl.out) (ec_sz rfl) (ec_one _ _ _ _) ?_; have HM : Hid _ := HM.out.alloc (.cells (ec n T B c).toArray 43) rfl) | (go_at_call 38; refine (M.rend HM.out 1 rfl Hf.out).mono ?_; rintro e w6 ⟨rfl, h⟩; have HM : Hid _ := h; clear h) | (refine St.wl_load stE (by rfl) rfl rfl (HM.out.range 3 rfl) (ec_len _ _ _ _ Hcl.out) ?_; simp only [Act.put, List.setIfInBounds_toArray, List.set_cons_zero, List.set_cons_succ]) | (go_at_call 23; refine (Hck.out _).mono ?_; rintro e w7 ⟨rfl, k1⟩; have HM : Hid _ := HM.out.calm k1; clear k1) | (refine St.wl_store stE rfl rfl rfl rfl (show _ = Value.agg (ec n T B c).toArray from rfl) (ec_sz Hcl.out) (ec_one _ _ _ _) (HM.out.get 0 rfl) (ec_sz rfl) ?_) | (refine St.wl_store stE rfl rfl rfl rfl (show _ = Value.agg (ec 0 ByteArray.empty ByteArray.empty Z32).toArray from rfl) (ec_sz rfl) (ec_one _ _ _ _) (HM.out.get 0 rfl) (ec_sz rfl) ?_))
    refine bodyPost_ret (St.res2 stE rfl _ _ w.heap.size (ec 0 ByteArray.empty ByteArray.empty Z32).toArray (ec_sz rfl) rfl ((HM.out.setr 0 rfl (ec 0 ByteArray.empty ByteArray.empty Z32).toArray).get 0 rfl) _ rfl) rfl ?_
    exact ⟨rfl, (HM.out.setr 0 rfl (ec 0 ByteArray.empty ByteArray.empty Z32).toArray).keep⟩
  subst hg0
  rw [e, if_neg (by simp), if_neg (by simp)]
  clear e hK hn hs hT hC hB hf hg hTl hBl hcl hK2
  go_enter Try.func25, Try.ntmps25
  go_wp2_with (first | (refine St.wl_alloc stE rfl rfl (by (try simp only [World.size_alloc]); rfl) ?_; simp only [Act.put, List.setIfInBounds_toArray, List.set_cons_zero, List.set_cons_succ]) | (go_at_call 32; refine (M.open HM.out s Hs.out (by (try simp only [World.size_alloc]); rfl)).mono ?_; rintro e w1 ⟨rfl, h⟩; have HM : Hid _ := h; clear h) | (go_at_call 33; refine (M.rnum HM.out 1 rfl Hn.out).mono ?_; rintro e w2 ⟨rfl, h⟩; have HM : Hid _ := h; clear h) | (go_at_call 34; refine (M.rerr HM.out 1 rfl).mono ?_; rintro e w3 ⟨rfl, rfl⟩) | (go_at_call 57; first | (refine (of_none _ n HKn.out).mono ?_; rintro e w4 ⟨rfl, k1⟩; have HM : Hid _ := (HM.out.calm k1).alloc (.cells #[.bool false, .bool false, .int .i64 0, .bool false] 91) rfl; clear k1) | (refine (of_any _ n HK7.out).mono ?_; rintro e w4 ⟨rfl, k1⟩; have HM : Hid _ := (HM.out.calm k1).alloc (.cells #[.bool (pT n), .bool (pC n), .int .i64 (pB n), .bool (pE n)] 91) rfl; clear k1)) | (refine St.wl_load stP (by rfl) rfl rfl (HM.out.range 2 rfl) rfl ?_; simp only [Act.put, List.setIfInBounds_toArray, List.set_cons_zero, List.set_cons_succ]) | (go_at_call 63; refine (M_read HM.out 1 rfl HK7.out HT.out HC.out HB.out).mono ?_; rintro e w5 ⟨rfl, h⟩; have HM : Hid _ := h; clear h) | (refine St.wl_storeN stE rfl rfl rfl rfl rfl (by (try simp only [World.size_alloc])) (show _ = Value.agg (ec n T B c).toArray from rfl) (ec_sz Hcl.out) (ec_sz rfl) (ec_one _ _ _ _) ?_; have HM : Hid _ := HM.out.alloc (.cells (ec n T B c).toArray 43) rfl) | (go_at_call 38; refine (M.rend HM.out 1 rfl Hf.out).mono ?_; rintro e w6 ⟨rfl, h⟩; have HM : Hid _ := h; clear h) | (refine St.wl_load stE (by rfl) rfl rfl (HM.out.range 3 rfl) (ec_len _ _ _ _ Hcl.out) ?_; simp only [Act.put, List.setIfInBounds_toArray, List.set_cons_zero, List.set_cons_succ]) | (go_at_call 23; refine (Hck.out _).mono ?_; rintro e w7 ⟨rfl, k1⟩; have HM : Hid _ := HM.out.calm k1; clear k1) | (refine St.wl_store stE rfl rfl rfl rfl (show _ = Value.agg (ec n T B c).toArray from rfl) (ec_sz Hcl.out) (ec_one _ _ _ _) (HM.out.get 0 rfl) (ec_sz rfl) ?_) | (refine St.wl_store stE rfl rfl rfl rfl (show _ = Value.agg (ec 0 ByteArray.empty ByteArray.empty Z32).toArray from rfl) (ec_sz rfl) (ec_one _ _ _ _) (HM.out.get 0 rfl) (ec_sz rfl) ?_))
  refine bodyPost_ret (St.res2 stE rfl _ _ w.heap.size (ec n T B c).toArray (ec_sz Hcl.out) rfl ((HM.out.setr 0 rfl (ec n T B c).toArray).get 0 rfl) _ rfl) rfl ?_
  exact ⟨rfl, (HM.out.setr 0 rfl (ec n T B c).toArray).keep⟩
end En
end Go.Proofs.Ytmnmemeldjbifaa
