/-
  'petrellaw14.EntryLimits': a body of any length, of any kind. For every input.
-/
import Derived.Test.YtmnmemeldjbifaaEnA
import Derived.Test.YtmnmemeldjbifaaSeg
set_option linter.unusedVariables false
set_option linter.unusedSimpArgs false
namespace Go.Proofs.Ytmnmemeldjbifaa
open Go.RowKit
namespace EnLim
open Oct Ids En Ms Go.ChangeShapes Go.WideShapes Go.ChangeAt
open Go.ChangeMaps (open_string shut_string)
open Tp (tk)

abbrev RA : ByteArray := ⟨#[114, 97]⟩
theorem pv_no {K : Int} {T B : ByteArray} {c : List UInt8} {v : Int} (h : ck K T B c = v) (hv : v ≠ 0) : pv K T B c = ⟨#[]⟩ := by unfold pv; rw [if_neg (by rw [h]; exact hv)]; rfl
theorem pv_yes {K : Int} {T B : ByteArray} {c : List UInt8} (h : ck K T B c = 0) (hT : pT K = false) (hC : pC K = false) : (pv K T B c).size = 1 + B.size := by
  unfold pv
  rw [if_pos h, Byt.arr_size]
  unfold en
  rw [if_neg (by simp [hT]), if_neg (by simp [hC]), List.nil_append, List.nil_append, List.length_append, OctRd.be_len, Seg.len_s]
theorem put_v (w : World) (K : Int) (T B : ByteArray) (v : Int) (p : ByteArray) (hT : T.size ≤ maxLen) (hB : B.size ≤ maxLen) (hv : ck K T B Z32 = v) (hp : pv K T B Z32 = p) :
    Calls Try.prog 21 #[.agg (ec K T B Z32).toArray] w fun e w' => e = .returned (.tuple #[.string p, .int .i64 v]) ∧ Keep (fun _ => False) w w' := by
  have := put_any w K T B Z32 rfl hT hB
  rwa [hv, hp] at this
section
variable (B : ByteArray)
theorem ck_body (K : Int) (h : K = 1 ∨ K = 2 ∨ K = 3) : ck K ByteArray.empty B Z32 = if B.size = 0 then 4 else if pB K < (B.size : Int) then 3 else 0 := by
  have e1 : ¬ (K < 1 ∨ 7 < K) := by omega
  have e2 : pT K = false := by rcases h with rfl | rfl | rfl <;> rfl
  have e3 : 0 < pB K := by rcases h with rfl | rfl | rfl <;> decide
  have e4 : pE K = false := by rcases h with rfl | rfl | rfl <;> rfl
  unfold ck
  rw [if_neg e1, if_neg (fun e => by rcases e with e | e | e; exact e.2 rfl; exact e.2 rfl; exact absurd e.1 (by omega)), if_neg (fun e => by rw [e2] at e; exact absurd e.1 (by decide))]
  by_cases hb : B.size = 0
  · rw [if_pos ⟨e3, hb, e4⟩, if_pos hb]
  · rw [if_neg (fun e => hb e.2.1), if_neg hb]
theorem ck_7 (h1 : B.size ≤ 2000) : ck 7 RA B Z32 = 0 := by
  have : tk RA = 5 := by decide +kernel
  simp [ck, pT, pC, pB, pE, this]; omega
theorem ck_o (K : Int) (h : ¬ (K = 1 ∨ K = 2 ∨ K = 3 ∨ K = 7)) (h0 : B.size ≠ 0) : ck K ByteArray.empty B Z32 ≠ 0 := by
  rcases (by omega : (K < 1 ∨ 7 < K) ∨ K = 4 ∨ K = 5 ∨ K = 6) with h1 | rfl | rfl | rfl
  · unfold ck; rw [if_pos h1]; decide
  · simp [ck, pT, pC, pB, pE, h0]
  · simp [ck, pT, pC, pB, pE, h0]
  · simp [ck, pT, pC, pB, pE, h0]
end
/-- What the law's end wants of what was put. -/
structure Put1 (K : Int) (T B : ByteArray) (v : Int) (p : ByteArray) : Prop where
  put : ∀ w, Calls Try.prog 21 #[.agg (ec K T B Z32).toArray] w fun e w' => e = .returned (.tuple #[.string p, .int .i64 v]) ∧ Keep (fun _ => False) w w'
set_option maxRecDepth 100000 in
set_option maxHeartbeats 2000000 in
theorem walk_y1 (x : Int) (hx : 0 ≤ x) (hx2 : x < 65536) (M : Nat) (hM : x % 2000 = M) (h0 : 1 ≤ x % 2000) (h1 : x % 2000 ≤ 256) (B : ByteArray) (hZ : (⟨(List.replicate M (0 : UInt8)).toArray⟩ : ByteArray) = B) (p : ByteArray) (Hp : Hid (Put1 1 ByteArray.empty B 0 p)) (hp1 : p.toList.isEmpty = false) (hp2 : ¬ p.toList = []) (hp3 : (p.size : Int) ≤ x % 2000 + 4) (w : World) :
    Calls Try.prog 8 #[.int .i64 1, .int .u16 x] w fun e w' => e = .returned (.bool true) ∧ Below w.heap.size w w' := by
  have HM : Hid _ := hM
  have hm : M ≤ 2000 := by omega
  have HZ : Hid _ := hZ
  have HA : Hid (∀ w, _) := fun w => awake_true w
  clear hZ hM
  go_enter Try.func8, Try.ntmps8
  go_wp2_with (first | (at_make; refine Byt.wl_make rfl rfl rfl rfl HM.out HM.out (by omega) rfl ?_; intro w1 h1 k1 hlt; have hcv := h1.str; rw [HZ.out] at hcv; have HK : Hid _ := k1; clear h1 k1; simp only [Act.put, List.setIfInBounds_toArray, List.set_cons_zero, List.set_cons_succ]) | (refine St.wl_alloc stE rfl rfl (by (try simp only [World.size_alloc]); rfl) ?_; simp only [Act.put, List.setIfInBounds_toArray, List.set_cons_zero, List.set_cons_succ]) | (refine St.wl_load stE (by rfl) rfl rfl HE.out.all (ec_len _ _ _ _ rfl) ?_; simp only [Act.put, List.setIfInBounds_toArray, List.set_cons_zero, List.set_cons_succ]) | (go_at_call 21; refine (Hp.out.put _).mono ?_; rintro e w3 ⟨rfl, k1⟩; have HK : Hid _ := HK.out.trans k1; clear k1) | (go_at_call 20; refine (HA.out _).mono ?_; rintro e w5 ⟨rfl, k1⟩; have HK : Hid _ := HK.out.trans k1; clear k1) | (refine St.wl_storeN stE rfl rfl rfl rfl rfl (by (try simp only [World.size_alloc])) (show _ = Value.agg (ec 1 ByteArray.empty B Z32).toArray from rfl) (ec_sz rfl) (ec_sz rfl) (ec_one _ _ _ _) ?_; have HE : Hid _ := EAt.new (K := 1) (T := ByteArray.empty) (B := B) (c := Z32) w1 rfl; have HK : Hid _ := HK.out.alloc (.cells (ec 1 ByteArray.empty B Z32).toArray 43)))
  go_ret
  exact ⟨rfl, Keep.below HK.out (Nat.le_refl _) (fun _ h => h.elim)⟩
set_option maxRecDepth 100000 in
set_option maxHeartbeats 2000000 in
theorem walk_y2 (x : Int) (hx : 0 ≤ x) (hx2 : x < 65536) (M : Nat) (hM : x % 2000 = M) (h0 : 1 ≤ x % 2000) (h1 : x % 2000 ≤ 256) (B : ByteArray) (hZ : (⟨(List.replicate M (0 : UInt8)).toArray⟩ : ByteArray) = B) (p : ByteArray) (Hp : Hid (Put1 2 ByteArray.empty B 0 p)) (hp1 : p.toList.isEmpty = false) (hp2 : ¬ p.toList = []) (hp3 : (p.size : Int) ≤ x % 2000 + 4) (w : World) :
    Calls Try.prog 8 #[.int .i64 2, .int .u16 x] w fun e w' => e = .returned (.bool true) ∧ Below w.heap.size w w' := by
  have HM : Hid _ := hM
  have hm : M ≤ 2000 := by omega
  have HZ : Hid _ := hZ
  have HA : Hid (∀ w, _) := fun w => awake_true w
  clear hZ hM
  go_enter Try.func8, Try.ntmps8
  go_wp2_with (first | (at_make; refine Byt.wl_make rfl rfl rfl rfl HM.out HM.out (by omega) rfl ?_; intro w1 h1 k1 hlt; have hcv := h1.str; rw [HZ.out] at hcv; have HK : Hid _ := k1; clear h1 k1; simp only [Act.put, List.setIfInBounds_toArray, List.set_cons_zero, List.set_cons_succ]) | (refine St.wl_alloc stE rfl rfl (by (try simp only [World.size_alloc]); rfl) ?_; simp only [Act.put, List.setIfInBounds_toArray, List.set_cons_zero, List.set_cons_succ]) | (refine St.wl_load stE (by rfl) rfl rfl HE.out.all (ec_len _ _ _ _ rfl) ?_; simp only [Act.put, List.setIfInBounds_toArray, List.set_cons_zero, List.set_cons_succ]) | (go_at_call 21; refine (Hp.out.put _).mono ?_; rintro e w3 ⟨rfl, k1⟩; have HK : Hid _ := HK.out.trans k1; clear k1) | (go_at_call 20; refine (HA.out _).mono ?_; rintro e w5 ⟨rfl, k1⟩; have HK : Hid _ := HK.out.trans k1; clear k1) | (refine St.wl_storeN stE rfl rfl rfl rfl rfl (by (try simp only [World.size_alloc])) (show _ = Value.agg (ec 2 ByteArray.empty B Z32).toArray from rfl) (ec_sz rfl) (ec_sz rfl) (ec_one _ _ _ _) ?_; have HE : Hid _ := EAt.new (K := 2) (T := ByteArray.empty) (B := B) (c := Z32) w1 rfl; have HK : Hid _ := HK.out.alloc (.cells (ec 2 ByteArray.empty B Z32).toArray 43)))
  go_ret
  exact ⟨rfl, Keep.below HK.out (Nat.le_refl _) (fun _ h => h.elim)⟩
set_option maxRecDepth 100000 in
set_option maxHeartbeats 2000000 in
theorem walk_y3 (x : Int) (hx : 0 ≤ x) (hx2 : x < 65536) (M : Nat) (hM : x % 2000 = M) (h0 : 1 ≤ x % 2000) (h1 : x % 2000 ≤ 512) (B : ByteArray) (hZ : (⟨(List.replicate M (0 : UInt8)).toArray⟩ : ByteArray) = B) (p : ByteArray) (Hp : Hid (Put1 3 ByteArray.empty B 0 p)) (hp1 : p.toList.isEmpty = false) (hp2 : ¬ p.toList = []) (hp3 : (p.size : Int) ≤ x % 2000 + 4) (w : World) :
    Calls Try.prog 8 #[.int .i64 3, .int .u16 x] w fun e w' => e = .returned (.bool true) ∧ Below w.heap.size w w' := by
  have HM : Hid _ := hM
  have hm : M ≤ 2000 := by omega
  have HZ : Hid _ := hZ
  have HA : Hid (∀ w, _) := fun w => awake_true w
  clear hZ hM
  go_enter Try.func8, Try.ntmps8
  go_wp2_with (first | (at_make; refine Byt.wl_make rfl rfl rfl rfl HM.out HM.out (by omega) rfl ?_; intro w1 h1 k1 hlt; have hcv := h1.str; rw [HZ.out] at hcv; have HK : Hid _ := k1; clear h1 k1; simp only [Act.put, List.setIfInBounds_toArray, List.set_cons_zero, List.set_cons_succ]) | (refine St.wl_alloc stE rfl rfl (by (try simp only [World.size_alloc]); rfl) ?_; simp only [Act.put, List.setIfInBounds_toArray, List.set_cons_zero, List.set_cons_succ]) | (refine St.wl_load stE (by rfl) rfl rfl HE.out.all (ec_len _ _ _ _ rfl) ?_; simp only [Act.put, List.setIfInBounds_toArray, List.set_cons_zero, List.set_cons_succ]) | (go_at_call 21; refine (Hp.out.put _).mono ?_; rintro e w3 ⟨rfl, k1⟩; have HK : Hid _ := HK.out.trans k1; clear k1) | (go_at_call 20; refine (HA.out _).mono ?_; rintro e w5 ⟨rfl, k1⟩; have HK : Hid _ := HK.out.trans k1; clear k1) | (refine St.wl_storeN stE rfl rfl rfl rfl rfl (by (try simp only [World.size_alloc])) (show _ = Value.agg (ec 3 ByteArray.empty B Z32).toArray from rfl) (ec_sz rfl) (ec_sz rfl) (ec_one _ _ _ _) ?_; have HE : Hid _ := EAt.new (K := 3) (T := ByteArray.empty) (B := B) (c := Z32) w1 rfl; have HK : Hid _ := HK.out.alloc (.cells (ec 3 ByteArray.empty B Z32).toArray 43)))
  go_ret
  exact ⟨rfl, Keep.below HK.out (Nat.le_refl _) (fun _ h => h.elim)⟩
set_option maxRecDepth 100000 in
set_option maxHeartbeats 2000000 in
theorem walk_n1 (x : Int) (hx : 0 ≤ x) (hx2 : x < 65536) (M : Nat) (hM : x % 2000 = M) (h01 : x % 2000 < 1 ∨ (1 ≤ x % 2000 ∧ 256 < x % 2000)) (B : ByteArray) (hZ : (⟨(List.replicate M (0 : UInt8)).toArray⟩ : ByteArray) = B) (v : Int) (Hp : Hid (Put1 1 ByteArray.empty B v ⟨#[]⟩)) (hv1 : (v == 0) = false) (hv2 : (v != 0) = true) (w : World) :
    Calls Try.prog 8 #[.int .i64 1, .int .u16 x] w fun e w' => e = .returned (.bool true) ∧ Below w.heap.size w w' := by
  have HM : Hid _ := hM
  have hm : M ≤ 2000 := by omega
  have HZ : Hid _ := hZ
  have HA : Hid (∀ w, _) := fun w => awake_true w
  clear hZ hM
  rcases h01 with h0 | ⟨h0, h1⟩
  all_goals
    try have hq : decide (x % 2000 ≤ 256) = false := decide_eq_false (by omega)
    go_enter Try.func8, Try.ntmps8
    go_wp2_with (first | (at_make; refine Byt.wl_make rfl rfl rfl rfl HM.out HM.out (by omega) rfl ?_; intro w1 h1 k1 hlt; have hcv := h1.str; rw [HZ.out] at hcv; have HK : Hid _ := k1; clear h1 k1; simp only [Act.put, List.setIfInBounds_toArray, List.set_cons_zero, List.set_cons_succ]) | (refine St.wl_alloc stE rfl rfl (by (try simp only [World.size_alloc]); rfl) ?_; simp only [Act.put, List.setIfInBounds_toArray, List.set_cons_zero, List.set_cons_succ]) | (refine St.wl_load stE (by rfl) rfl rfl HE.out.all (ec_len _ _ _ _ rfl) ?_; simp only [Act.put, List.setIfInBounds_toArray, List.set_cons_zero, List.set_cons_succ]) | (go_at_call 21; refine (Hp.out.put _).mono ?_; rintro e w3 ⟨rfl, k1⟩; have HK : Hid _ := HK.out.trans k1; clear k1) | (go_at_call 20; refine (HA.out _).mono ?_; rintro e w5 ⟨rfl, k1⟩; have HK : Hid _ := HK.out.trans k1; clear k1) | (refine St.wl_storeN stE rfl rfl rfl rfl rfl (by (try simp only [World.size_alloc])) (show _ = Value.agg (ec 1 ByteArray.empty B Z32).toArray from rfl) (ec_sz rfl) (ec_sz rfl) (ec_one _ _ _ _) ?_; have HE : Hid _ := EAt.new (K := 1) (T := ByteArray.empty) (B := B) (c := Z32) w1 rfl; have HK : Hid _ := HK.out.alloc (.cells (ec 1 ByteArray.empty B Z32).toArray 43)))
    go_ret
    exact ⟨rfl, Keep.below HK.out (Nat.le_refl _) (fun _ h => h.elim)⟩
set_option maxRecDepth 100000 in
set_option maxHeartbeats 2000000 in
theorem walk_n2 (x : Int) (hx : 0 ≤ x) (hx2 : x < 65536) (M : Nat) (hM : x % 2000 = M) (h01 : x % 2000 < 1 ∨ (1 ≤ x % 2000 ∧ 256 < x % 2000)) (B : ByteArray) (hZ : (⟨(List.replicate M (0 : UInt8)).toArray⟩ : ByteArray) = B) (v : Int) (Hp : Hid (Put1 2 ByteArray.empty B v ⟨#[]⟩)) (hv1 : (v == 0) = false) (hv2 : (v != 0) = true) (w : World) :
    Calls Try.prog 8 #[.int .i64 2, .int .u16 x] w fun e w' => e = .returned (.bool true) ∧ Below w.heap.size w w' := by
  have HM : Hid _ := hM
  have hm : M ≤ 2000 := by omega
  have HZ : Hid _ := hZ
  have HA : Hid (∀ w, _) := fun w => awake_true w
  clear hZ hM
  rcases h01 with h0 | ⟨h0, h1⟩
  all_goals
    try have hq : decide (x % 2000 ≤ 256) = false := decide_eq_false (by omega)
    go_enter Try.func8, Try.ntmps8
    go_wp2_with (first | (at_make; refine Byt.wl_make rfl rfl rfl rfl HM.out HM.out (by omega) rfl ?_; intro w1 h1 k1 hlt; have hcv := h1.str; rw [HZ.out] at hcv; have HK : Hid _ := k1; clear h1 k1; simp only [Act.put, List.setIfInBounds_toArray, List.set_cons_zero, List.set_cons_succ]) | (refine St.wl_alloc stE rfl rfl (by (try simp only [World.size_alloc]); rfl) ?_; simp only [Act.put, List.setIfInBounds_toArray, List.set_cons_zero, List.set_cons_succ]) | (refine St.wl_load stE (by rfl) rfl rfl HE.out.all (ec_len _ _ _ _ rfl) ?_; simp only [Act.put, List.setIfInBounds_toArray, List.set_cons_zero, List.set_cons_succ]) | (go_at_call 21; refine (Hp.out.put _).mono ?_; rintro e w3 ⟨rfl, k1⟩; have HK : Hid _ := HK.out.trans k1; clear k1) | (go_at_call 20; refine (HA.out _).mono ?_; rintro e w5 ⟨rfl, k1⟩; have HK : Hid _ := HK.out.trans k1; clear k1) | (refine St.wl_storeN stE rfl rfl rfl rfl rfl (by (try simp only [World.size_alloc])) (show _ = Value.agg (ec 2 ByteArray.empty B Z32).toArray from rfl) (ec_sz rfl) (ec_sz rfl) (ec_one _ _ _ _) ?_; have HE : Hid _ := EAt.new (K := 2) (T := ByteArray.empty) (B := B) (c := Z32) w1 rfl; have HK : Hid _ := HK.out.alloc (.cells (ec 2 ByteArray.empty B Z32).toArray 43)))
    go_ret
    exact ⟨rfl, Keep.below HK.out (Nat.le_refl _) (fun _ h => h.elim)⟩
set_option maxRecDepth 100000 in
set_option maxHeartbeats 2000000 in
theorem walk_n3 (x : Int) (hx : 0 ≤ x) (hx2 : x < 65536) (M : Nat) (hM : x % 2000 = M) (h01 : x % 2000 < 1 ∨ (1 ≤ x % 2000 ∧ 512 < x % 2000)) (B : ByteArray) (hZ : (⟨(List.replicate M (0 : UInt8)).toArray⟩ : ByteArray) = B) (v : Int) (Hp : Hid (Put1 3 ByteArray.empty B v ⟨#[]⟩)) (hv1 : (v == 0) = false) (hv2 : (v != 0) = true) (w : World) :
    Calls Try.prog 8 #[.int .i64 3, .int .u16 x] w fun e w' => e = .returned (.bool true) ∧ Below w.heap.size w w' := by
  have HM : Hid _ := hM
  have hm : M ≤ 2000 := by omega
  have HZ : Hid _ := hZ
  have HA : Hid (∀ w, _) := fun w => awake_true w
  clear hZ hM
  rcases h01 with h0 | ⟨h0, h1⟩
  all_goals
    try have hq : decide (x % 2000 ≤ 512) = false := decide_eq_false (by omega)
    go_enter Try.func8, Try.ntmps8
    go_wp2_with (first | (at_make; refine Byt.wl_make rfl rfl rfl rfl HM.out HM.out (by omega) rfl ?_; intro w1 h1 k1 hlt; have hcv := h1.str; rw [HZ.out] at hcv; have HK : Hid _ := k1; clear h1 k1; simp only [Act.put, List.setIfInBounds_toArray, List.set_cons_zero, List.set_cons_succ]) | (refine St.wl_alloc stE rfl rfl (by (try simp only [World.size_alloc]); rfl) ?_; simp only [Act.put, List.setIfInBounds_toArray, List.set_cons_zero, List.set_cons_succ]) | (refine St.wl_load stE (by rfl) rfl rfl HE.out.all (ec_len _ _ _ _ rfl) ?_; simp only [Act.put, List.setIfInBounds_toArray, List.set_cons_zero, List.set_cons_succ]) | (go_at_call 21; refine (Hp.out.put _).mono ?_; rintro e w3 ⟨rfl, k1⟩; have HK : Hid _ := HK.out.trans k1; clear k1) | (go_at_call 20; refine (HA.out _).mono ?_; rintro e w5 ⟨rfl, k1⟩; have HK : Hid _ := HK.out.trans k1; clear k1) | (refine St.wl_storeN stE rfl rfl rfl rfl rfl (by (try simp only [World.size_alloc])) (show _ = Value.agg (ec 3 ByteArray.empty B Z32).toArray from rfl) (ec_sz rfl) (ec_sz rfl) (ec_one _ _ _ _) ?_; have HE : Hid _ := EAt.new (K := 3) (T := ByteArray.empty) (B := B) (c := Z32) w1 rfl; have HK : Hid _ := HK.out.alloc (.cells (ec 3 ByteArray.empty B Z32).toArray 43)))
    go_ret
    exact ⟨rfl, Keep.below HK.out (Nat.le_refl _) (fun _ h => h.elim)⟩
set_option maxRecDepth 100000 in
set_option maxHeartbeats 2000000 in
theorem walk_7 (x : Int) (hx : 0 ≤ x) (hx2 : x < 65536) (M : Nat) (hM : x % 2000 = M) (B : ByteArray) (hZ : (⟨(List.replicate M (0 : UInt8)).toArray⟩ : ByteArray) = B) (p : ByteArray) (Hp : Hid (Put1 7 RA B 0 p)) (hp1 : p.toList.isEmpty = false) (hp2 : ¬ p.toList = []) (hp3 : (p.size : Int) ≤ x % 2000 + 4) (w : World) :
    Calls Try.prog 8 #[.int .i64 7, .int .u16 x] w fun e w' => e = .returned (.bool true) ∧ Below w.heap.size w w' := by
  have HM : Hid _ := hM
  have hm : M ≤ 2000 := by omega
  have HZ : Hid _ := hZ
  have HA : Hid (∀ w, _) := fun w => awake_true w
  clear hZ hM
  go_enter Try.func8, Try.ntmps8
  go_wp2_with (first | (at_make; refine Byt.wl_make rfl rfl rfl rfl HM.out HM.out (by omega) rfl ?_; intro w1 h1 k1 hlt; have hcv := h1.str; rw [HZ.out] at hcv; have HK : Hid _ := k1; clear h1 k1; simp only [Act.put, List.setIfInBounds_toArray, List.set_cons_zero, List.set_cons_succ]) | (refine St.wl_alloc stE rfl rfl (by (try simp only [World.size_alloc]); rfl) ?_; simp only [Act.put, List.setIfInBounds_toArray, List.set_cons_zero, List.set_cons_succ]) | (refine St.wl_load stE (by rfl) rfl rfl HE.out.all (ec_len _ _ _ _ rfl) ?_; simp only [Act.put, List.setIfInBounds_toArray, List.set_cons_zero, List.set_cons_succ]) | (go_at_call 21; refine (Hp.out.put _).mono ?_; rintro e w3 ⟨rfl, k1⟩; have HK : Hid _ := HK.out.trans k1; clear k1) | (go_at_call 20; refine (HA.out _).mono ?_; rintro e w5 ⟨rfl, k1⟩; have HK : Hid _ := HK.out.trans k1; clear k1) | (refine St.wl_storeN stE rfl rfl rfl rfl rfl (by (try simp only [World.size_alloc])) (show _ = Value.agg (ec 7 ByteArray.empty B Z32).toArray from rfl) (ec_sz rfl) (ec_sz rfl) (ec_one _ _ _ _) ?_; have HE0 : Hid _ := EAt.new (K := 7) (T := ByteArray.empty) (B := B) (c := Z32) w1 rfl; obtain ⟨g0, g1, g2⟩ := HE0.out.cells; have f1 := free_of (i := 1) HE0.out.blk; have HE : Hid (EAt (w1.alloc (.cells ((ec 7 ByteArray.empty B Z32).set 1 (.string RA)).toArray 43)) w1.heap.size 7 RA B Z32) := ⟨heap_alloc_new w1 _, rfl⟩; have HK : Hid _ := HK.out.alloc (.cells ((ec 7 ByteArray.empty B Z32).set 1 (.string RA)).toArray 43)))
  go_ret
  exact ⟨rfl, Keep.below HK.out (Nat.le_refl _) (fun _ h => h.elim)⟩
set_option maxRecDepth 100000 in
set_option maxHeartbeats 2000000 in
theorem walk_o (K : Int) (hk : ¬ (K = 1 ∨ K = 2 ∨ K = 3 ∨ K = 7)) (x : Int) (hx : 0 ≤ x) (hx2 : x < 65536) (M : Nat) (hM : x % 2000 = M) (B : ByteArray) (hZ : (⟨(List.replicate M (0 : UInt8)).toArray⟩ : ByteArray) = B) (v : Int) (p : ByteArray) (Hp : Hid (Put1 K ByteArray.empty B v p)) (h0 : (x % 2000 == 0) = true ∨ ((x % 2000 == 0) = false ∧ (v != 0) = true ∧ p = ⟨#[]⟩)) (w : World) :
    Calls Try.prog 8 #[.int .i64 K, .int .u16 x] w fun e w' => e = .returned (.bool true) ∧ Below w.heap.size w w' := by
  have HM : Hid _ := hM
  have hm : M ≤ 2000 := by omega
  have HZ : Hid _ := hZ
  have HA : Hid (∀ w, _) := fun w => awake_true w
  have k1 : (K == 1) = false := by rw [beq_eq_false_iff_ne]; omega
  have k2 : (K == 2) = false := by rw [beq_eq_false_iff_ne]; omega
  have k3 : (K == 3) = false := by rw [beq_eq_false_iff_ne]; omega
  have k7 : (K == 7) = false := by rw [beq_eq_false_iff_ne]; omega
  clear hZ hM hk
  rcases h0 with h0 | ⟨h0, h1, rfl⟩
  all_goals
    go_enter Try.func8, Try.ntmps8
    go_wp2_with (first | (at_make; refine Byt.wl_make rfl rfl rfl rfl HM.out HM.out (by omega) rfl ?_; intro w1 h1 k1 hlt; have hcv := h1.str; rw [HZ.out] at hcv; have HK : Hid _ := k1; clear h1 k1; simp only [Act.put, List.setIfInBounds_toArray, List.set_cons_zero, List.set_cons_succ]) | (refine St.wl_alloc stE rfl rfl (by (try simp only [World.size_alloc]); rfl) ?_; simp only [Act.put, List.setIfInBounds_toArray, List.set_cons_zero, List.set_cons_succ]) | (refine St.wl_load stE (by rfl) rfl rfl HE.out.all (ec_len _ _ _ _ rfl) ?_; simp only [Act.put, List.setIfInBounds_toArray, List.set_cons_zero, List.set_cons_succ]) | (go_at_call 21; refine (Hp.out.put _).mono ?_; rintro e w3 ⟨rfl, k1⟩; have HK : Hid _ := HK.out.trans k1; clear k1) | (go_at_call 20; refine (HA.out _).mono ?_; rintro e w5 ⟨rfl, k1⟩; have HK : Hid _ := HK.out.trans k1; clear k1) | (refine St.wl_storeN stE rfl rfl rfl rfl rfl (by (try simp only [World.size_alloc])) (show _ = Value.agg (ec K ByteArray.empty B Z32).toArray from rfl) (ec_sz rfl) (ec_sz rfl) (ec_one _ _ _ _) ?_; have HE : Hid _ := EAt.new (K := K) (T := ByteArray.empty) (B := B) (c := Z32) w1 rfl; have HK : Hid _ := HK.out.alloc (.cells (ec K ByteArray.empty B Z32).toArray 43)))
    go_ret
    exact ⟨rfl, Keep.below HK.out (Nat.le_refl _) (fun _ h => h.elim)⟩
theorem walk (K x : Int) (hx : 0 ≤ x) (hx2 : x < 65536) (w : World) : Calls Try.prog 8 #[.int .i64 K, .int .u16 x] w fun e w' => e = .returned (.bool true) ∧ Below w.heap.size w w' := by
  obtain ⟨M, hM⟩ : ∃ M : Nat, x % 2000 = M := ⟨(x % 2000).toNat, by omega⟩
  obtain ⟨B, hZ⟩ : ∃ B : ByteArray, (⟨(List.replicate M (0 : UInt8)).toArray⟩ : ByteArray) = B := ⟨_, rfl⟩
  have hB : B.size = M := by rw [← hZ, Byt.arr_size, List.length_replicate]
  have hBm : B.size ≤ maxLen := by unfold maxLen; omega
  have sm : ∀ K, (K = 1 ∨ K = 2 ∨ K = 3) → ck K ByteArray.empty B Z32 = 0 → (pv K ByteArray.empty B Z32).toList.isEmpty = false ∧ ¬ (pv K ByteArray.empty B Z32).toList = [] ∧ ((pv K ByteArray.empty B Z32).size : Int) ≤ x % 2000 + 4 := fun K hk hc => by
    have h1 := pv_yes hc (by rcases hk with rfl | rfl | rfl <;> rfl) (by rcases hk with rfl | rfl | rfl <;> rfl)
    exact ⟨list_ne2 (by omega), list_ne (by omega), by omega⟩
  have P : ∀ K v, ck K ByteArray.empty B Z32 = v → Hid (Put1 K ByteArray.empty B v (pv K ByteArray.empty B Z32)) := fun K v hv => Put1.mk fun w => put_v w K ByteArray.empty B v _ (Nat.zero_le _) hBm hv rfl
  by_cases h7 : K = 7
  · subst h7
    have hc := ck_7 B (by omega)
    have hsz : (pv 7 RA B Z32).size = 4 + B.size := by
      unfold pv
      rw [if_pos hc, Byt.arr_size]
      unfold en
      rw [if_pos (by decide), if_neg (by decide), List.nil_append, List.length_append, List.length_append, List.length_append, OctRd.be_len, OctRd.be_len, Seg.len_s, Seg.len_s]
      show 1 + (1 + 2 + B.size) = _
      omega
    exact walk_7 x hx hx2 M hM B hZ _ (Put1.mk fun w => put_v w 7 RA B 0 _ (by decide) hBm hc rfl) (list_ne2 (by omega)) (list_ne (by omega)) (by omega) w
  by_cases hk : K = 1 ∨ K = 2 ∨ K = 3
  · have hc := ck_body B K hk
    by_cases hz : B.size = 0
    · rw [if_pos hz] at hc
      have Hp := P K 4 hc
      rw [pv_no hc (by decide)] at Hp
      rcases hk with rfl | rfl | rfl
      · exact walk_n1 x hx hx2 M hM (.inl (by omega)) B hZ 4 Hp (by decide) (by decide) w
      · exact walk_n2 x hx hx2 M hM (.inl (by omega)) B hZ 4 Hp (by decide) (by decide) w
      · exact walk_n3 x hx hx2 M hM (.inl (by omega)) B hZ 4 Hp (by decide) (by decide) w
    · rw [if_neg hz] at hc
      by_cases hl : pB K < (B.size : Int)
      · rw [if_pos hl] at hc
        have Hp := P K 3 hc
        rw [pv_no hc (by decide)] at Hp
        rcases hk with rfl | rfl | rfl
        · have : (256 : Int) < B.size := hl
          exact walk_n1 x hx hx2 M hM (.inr ⟨by omega, by omega⟩) B hZ 3 Hp (by decide) (by decide) w
        · have : (256 : Int) < B.size := hl
          exact walk_n2 x hx hx2 M hM (.inr ⟨by omega, by omega⟩) B hZ 3 Hp (by decide) (by decide) w
        · have : (512 : Int) < B.size := hl
          exact walk_n3 x hx hx2 M hM (.inr ⟨by omega, by omega⟩) B hZ 3 Hp (by decide) (by decide) w
      · rw [if_neg hl] at hc
        obtain ⟨q1, q2, q3⟩ := sm K hk hc
        have Hp := P K 0 hc
        rcases hk with rfl | rfl | rfl
        · have : ¬ (256 : Int) < B.size := hl
          exact walk_y1 x hx hx2 M hM (by omega) (by omega) B hZ _ Hp q1 q2 q3 w
        · have : ¬ (256 : Int) < B.size := hl
          exact walk_y2 x hx hx2 M hM (by omega) (by omega) B hZ _ Hp q1 q2 q3 w
        · have : ¬ (512 : Int) < B.size := hl
          exact walk_y3 x hx hx2 M hM (by omega) (by omega) B hZ _ Hp q1 q2 q3 w
  · have hk' : ¬ (K = 1 ∨ K = 2 ∨ K = 3 ∨ K = 7) := by omega
    refine walk_o K hk' x hx hx2 M hM B hZ _ _ (P K _ rfl) ?_ w
    by_cases hz : x % 2000 = 0
    · exact .inl (by simp [hz])
    · have hc := ck_o B K hk' (by omega)
      exact .inr ⟨by simpa using hz, by simpa using hc, pv_no rfl hc⟩

set_option maxRecDepth 100000 in
theorem own : ownKnob Try.prog.godebug = none := by kernel_rfl
set_option maxRecDepth 100000 in
theorem laidOut : laidOutB Try.prog = true := by kernel_rfl
set_option maxRecDepth 100000 in
theorem contract (H : Type) (enc : TypeId × Value → H) (W : World) (base : Nat) (args : Array Value) (ds gs : List (DataW H)) (before : List MemPlace)
    (hval : ∀ (j : Nat) t v, Try.f8.params[j]? = some t → args[j]? = some v → Value.okWide Try.prog W .any base t v)
    (hW : DataW.Whole enc Try.prog Try.f8.params.toList Rows.entryLimitsSpec.vars false W args.toList ds gs before) :
    Calls Try.prog 8 args W fun e W' => ∃ v, e = .returned v ∧ Rows.entryLimitsSpec.post enc Try.prog Try.f8 false true false false W args v W' := by
  have hW' := hW
  obtain ⟨p, q, hA0, hV, rfl, hfz, hnd⟩ := hW
  have hA : DataW.TrodAll enc Try.prog W 0 (fun _ => true) true Try.f8.params.toList args.toList ds p := hA0
  rw [Try.params8] at hA hval
  obtain ⟨rfl, rfl⟩ := trodVars_none hV
  obtain ⟨v0, vs0, d0, ds0, p0, q0, hargs, rfl, rfl, h0, r0⟩ := trodAll_cons hA
  obtain ⟨v1, vs1, d1, ds1, p1, q1, rfl, rfl, rfl, h1, r1⟩ := trodAll_cons r0
  obtain ⟨rfl, rfl, rfl⟩ := trodAll_nil r1
  obtain rfl : args = #[v0, v1] := by cases args; simp_all
  obtain ⟨K, rfl, rfl, rfl, hw0⟩ := open_int Try.underlying3 (hval 0 _ v0 rfl rfl) h0
  obtain ⟨x, rfl, rfl, rfl, hw1⟩ := open_int Try.underlying52 (hval 1 _ v1 rfl rfl) h1
  have hx : 0 ≤ x ∧ x < 65536 := by
    have q := hw1
    simp [Lit.wf, IntKind.min, IntKind.max, IntKind.signed, IntKind.bits] at q
    omega
  refine (walk K x hx.1 hx.2 W).mono fun e W' ⟨he, bel⟩ => ?_
  subst he
  exact ⟨_, rfl, Opn.law_post laidOut (by kernel_rfl) rfl Try.underlying4 rfl rfl hW' bel⟩
set_option maxRecDepth 100000 in
theorem lifted (os : Os) (started : os.Started) (H : Type) (enc : TypeId × Value → H) :
    ReturnsInHanded {} Try.checked os 8 .any (Rows.entryLimitsSpec.pre6 enc Try.prog Try.f8 Rows.entryLimitsRow.domain false) (Rows.entryLimitsSpec.post enc Try.prog Try.f8 false true false false) := by
  refine returnsInHanded_of_change (C := Try.checked) own started (by kernel_rfl) Try.func8
    (ChangeSpec.witness6 (enc := enc) (C := Try.checked) false ⟨#[], #[.int .i64 0, .int .u16 0], []⟩ 8 (by kernel_rfl) (by kernel_rfl) (by kernel_rfl) (by kernel_rfl)) ?_
  intro W base args ds gs before hval0 hW hcnd _
  exact contract H enc W base args ds gs before hval0 hW
theorem over : Rows.entryLimitsRow.holds Try.pinned (OpenSpec.ofChange Rows.entryLimitsSpec) :=
  OpenClaim.holds_of_wide 8 Try.f8 rfl rfl rfl rfl rfl rfl rfl ⟨rfl, rfl, rfl, rfl, rfl⟩ rfl rfl rfl rfl rfl (by kernel_rfl) Try.func8 (by kernel_rfl)
    (of_decide_eq_true (by kernel_rfl)) (by unfold Func.isWrapper; first | (rw [if_pos (by decide +kernel)]; kernel_rfl) | (rw [if_neg (by decide +kernel)]; exact ⟨rfl, rfl⟩))
    (fun os started H enc _ => lifted os started H enc)
theorem proved : Rows.EntryLimitsSaid := over
end EnLim
end Go.Proofs.Ytmnmemeldjbifaa
