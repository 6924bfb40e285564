/-
  Headers of a row; heights: rule.above, rule.Height, petrelref15.Height.
-/
import Derived.Test.YthllhjdaknmlbaaDoorHdF
import Derived.Test.YthllhjdaknmlbaaDoorRows4
import Derived.Test.YthllhjdaknmlbaaDoorGIf
set_option linter.unusedVariables false
set_option linter.unusedSimpArgs false
namespace Go.Proofs.YthllhjdaknmlbaaDoor
open Go.RowKit
namespace St
section
variable {α : Type} {T t : TypeId} {n bytes : Nat} {enc : α → List Value} {w w' : World} {z : Value} {ops : Array Oper} {rest : List Oper} {o : Oper} {a : Act} {Q : Exit → Act → World → Prop}
/-- 'make([]T, 0, n)'. -/
theorem wl_make0 (hE : Enc n enc) (hsl : SlT Tryd.prog t T z n bytes) (hby : bytes ≤ 100000) (hgd : o.guard = none) {l c : Operand} (ho : o.op = .makeSlice t l c) {k : Nat} (hl : a.eval l = .int .i64 0) (hc : a.eval c = .int .i64 k) (hk : k ≤ 1000000) {b : Nat} (hb : w.heap.size = b)
    (h : ∀ w', Own T n enc w' (.slice (some ⟨b, 0, none⟩) 0 k) ([] : List α) → Keep (fun _ => False) w w' → b < w'.heap.size → wpList Tryd.prog ops Q rest (a.put o.dst (.slice (some ⟨b, 0, none⟩) 0 k)) w') : wpList Tryd.prog ops Q (o :: rest) a w := by
  subst hb
  obtain ⟨i, hi, hz, hs, hb⟩ := hsl.info
  subst hb
  refine wpList_make_own w hgd l c t ho 0 T i z n hsl.und hi hz hs .i64 .i64 (k : Int) k hl hc rfl ?_ (by unfold maxLen; omega) (Nat.zero_le _) ?_
  · have := Nat.mul_le_mul hby hk; omega
  · intro w' h1 h2
    exact h w' ⟨h1, fun x hx => by cases hx⟩ ((Keep.refl _ w).grown h2 (fun k hk => by cases hk)) (h1.lt _ rfl).2
end
end St
namespace Mem
/-- What a call made, beside what was held. -/
theorem M.then {F : Nat → Prop} {w0 w w' : World} {l m : List It} (h : M F w0 w l) (k : M (fun _ => False) w w' m) : M F w0 w' (l ++ m) := by
  have at_ : ∀ (i : Nat) (y : It), (l ++ m)[i]? = some y → (l[i]? = some y ∧ i < l.length) ∨ (m[i - l.length]? = some y ∧ l.length ≤ i) := by
    intro i y hi
    rcases Nat.lt_or_ge i l.length with hlt | hge
    · rw [List.getElem?_append_left hlt] at hi; exact .inl ⟨hi, hlt⟩
    · rw [List.getElem?_append_right hge] at hi; exact .inr ⟨hi, hge⟩
  have hz := k.keep.size
  have h0 := h.keep.size
  refine ⟨fun i y hi => ?_, fun i j y z hi hj hij b hy hz' => ?_, fun i y hi b hb => ?_, h.keep.trans' k.keep (fun _ _ h => h) (fun _ _ h => h.elim)⟩
  · rcases at_ i y hi with ⟨h1, _⟩ | ⟨h1, _⟩
    · exact y.stable w w' _ (h.all i y h1) k.keep (fun _ _ h => h)
    · exact k.all _ y h1
  · rcases at_ i y hi with ⟨h1, e1⟩ | ⟨h1, e1⟩ <;> rcases at_ j z hj with ⟨h2, e2⟩ | ⟨h2, e2⟩
    · exact h.dis i j y z h1 h2 hij b hy hz'
    · have := (h.rng i y h1 b hy).2
      have := (k.rng _ z h2 b hz').1.resolve_right (fun h => h)
      omega
    · have := (h.rng j z h2 b hz').2
      have := (k.rng _ y h1 b hy).1.resolve_right (fun h => h)
      omega
    · exact k.dis _ _ y z h1 h2 (by omega) b hy hz'
  · rcases at_ i y hi with ⟨h1, _⟩ | ⟨h1, _⟩
    · have := h.rng i y h1 b hb; exact ⟨this.1, by omega⟩
    · have := k.rng _ y h1 b hb; exact ⟨.inl (by have := this.1.resolve_right (fun h => h); omega), this.2⟩
end Mem
namespace Ru
open Oct Ids Gn Hd
open Mem (M It blk ids rows)

/-- A header. -/
structure Hh where
  a : Option Addr
  n : Nat
  c : Nat
  l : List (List UInt8)
  G : Int
  T : ByteArray
  A : Int
  Q : Int
  Z : Int
  m : List UInt8
  hm : m.length = 32
def he (x : Hh) : List Value := hd (.slice x.a x.n x.c) x.G x.T x.A x.Q x.Z x.m
theorem he_len (x : Hh) : (he x).length = 38 := hd_len _ _ _ _ _ _ _ x.hm
theorem encHe : St.Enc 38 he := by
  refine ⟨he_len, fun x u hu => ?_⟩
  unfold he hd at hu
  simp only [List.mem_append, List.mem_cons, List.mem_map, List.not_mem_nil, or_false] at hu
  rcases hu with ((rfl | rfl | rfl | rfl | rfl | rfl) | ⟨y, _, rfl⟩) <;> rfl
theorem he_one (x : Hh) : (he x).toArray.all (·.oneCell') = true := encHe.all x
theorem he_sz (x : Hh) : (he x).toArray.size = 38 := by rw [List.size_toArray, he_len]
def hck (x : Hh) : Int := ck x.n x.l x.G x.T x.A x.Q x.Z
def hiv (x : Hh) : List UInt8 := Hd.iv x.n x.l x.G x.T x.A x.Q x.Z x.m
theorem hiv_len (x : Hh) : (hiv x).length = 32 := iv_len _ _ _ _ _ _ _ _
/-- Its parents lie there. -/
def Hok (w : World) (x : Hh) : Prop := At w x.a x.n x.l ∧ x.n ≤ 1000000 ∧ x.T.size ≤ maxLen
theorem Hok.calm {w w' : World} {x : Hh} (h : Hok w x) (k : Keep (fun _ => False) w w') : Hok w' x := ⟨h.1.calm k, h.2⟩
theorem slHe : SlT Tryd.prog 28 26 (.agg hz0) 38 104 := SlT.mk' Tryd.underlying28 (by kernel_rfl) rfl (by omega)
theorem slInt : SlT Tryd.prog 75 3 (.int .i64 0) 1 8 := SlT.mk' Tryd.underlying75 (by kernel_rfl) rfl (by omega)
def eN (x : Int) : List Value := [.int .i64 x]
theorem encN : St.Enc 1 eN := ⟨fun _ => rfl, fun x u hu => by obtain rfl := List.mem_singleton.1 hu; rfl⟩
theorem hident (w : World) (hF : Sha.TabF w) (hK : Sha.TabK w) (x : Hh) (h : Hok w x) : Calls Tryd.prog 18 #[.agg (he x).toArray] w fun e w' => e = .returned (.tuple #[idv (hiv x), .int .i64 (hck x)]) ∧ Keep (fun _ => False) w w' :=
  ident_any w hF hK x.a x.n x.c x.l x.G x.T x.A x.Q x.Z x.m h.1 x.hm h.2.1 h.2.2
theorem hcheck (w : World) (x : Hh) (h : Hok w x) : Calls Tryd.prog 26 #[.agg (he x).toArray] w fun e w' => e = .returned (.int .i64 (hck x)) ∧ Keep (fun _ => False) w w' :=
  check_any w x.a x.n x.c x.l x.G x.T x.A x.Q x.Z x.m h.1 x.hm h.2.1 h.2.2 _ rfl
/-- The greatest. -/
def most (l : List Int) : Int := l.foldl max 0
def low (x : Hh) : Int := min x.G 1073741824
/-- What stands behind these. -/
def hgt (K : List Hh) : Int := most (K.map low) + 1
theorem most_snoc (l : List Int) (x : Int) : most (l ++ [x]) = max (most l) x := by unfold most; rw [List.foldl_append]; rfl
theorem most_le {l : List Int} (h : ∀ x ∈ l, x ≤ 1073741824) : 0 ≤ most l ∧ most l ≤ 1073741824 := by
  have : ∀ (l : List Int) (v : Int), 0 ≤ v → v ≤ 1073741824 → (∀ x ∈ l, x ≤ 1073741824) → 0 ≤ l.foldl max v ∧ l.foldl max v ≤ 1073741824 := by
    intro l
    induction l with
    | nil => intro v h1 h2 _; exact ⟨h1, h2⟩
    | cons x l ih =>
      intro v h1 h2 h
      have := h x List.mem_cons_self
      exact ih (max v x) (by omega) (by omega) (fun y hy => h y (List.mem_cons_of_mem _ hy))
  exact this l 0 (by omega) (by omega) h
theorem low_le (x : Hh) : low x ≤ 1073741824 := by unfold low; omega
theorem take_snoc {α : Type} {l : List α} {k : Nat} {x : α} (h : l[k]? = some x) : l.take (k + 1) = l.take k ++ [x] := by
  rw [List.take_add_one, h]; rfl
set_option maxRecDepth 100000 in
theorem above_any (w : World) (a : Option Addr) (n c : Nat) (l : List Int) (h : St.At 1 eN w a n l) (hn : n ≤ 1000000) (hb : ∀ x ∈ l, x ≤ 1073741824) :
    Calls Tryd.prog 37 #[.slice a n c] w fun e w' => e = .returned (.int .i64 (most l + 1)) ∧ w' = w := by
  have HA : Hid (St.At 1 eN w a n l) := h
  have HB : Hid (∀ x ∈ l, x ≤ 1073741824) := hb
  clear h hb
  go_enter Tryd.func37, Tryd.ntmps37
  go_wp2
  go_loop [3, 8] (fun v i => ∃ (k : Nat), k ≤ n ∧ i = .int .i64 k ∧ v = .int .i64 (most (l.take k))) (fun _ i => n - (intOf i).toNat)
  case atStart => exact ⟨0, Nat.zero_le _, rfl, rfl⟩
  case round =>
    obtain ⟨k, hk, rfl, rfl⟩ := hrel
    have hm := most_le (l := l.take k) (fun x hx => HB.out x (List.mem_of_mem_take hx))
    by_cases hlt : k < n
    · obtain ⟨x, hx⟩ : ∃ x, l[k]? = some x := ⟨_, List.getElem?_eq_getElem (by rw [HA.out.len]; exact hlt)⟩
      obtain ⟨b1, o1, rfl, hb1, hr1⟩ : ∃ b off, a = some ⟨b, off, none⟩ ∧ b < w.heap.size ∧ ∀ i x, l[i]? = some x → w.rangeAt b (off + i * 1) (eN x) := by rcases HA.out.lay with e | e; omega; exact e
      have dq : w.cell? ⟨b1, o1 + k, none⟩ = some (.int .i64 x) := by have := hr1 k x hx 0 _ rfl; simpa using this
      have HS : Hid (most (l.take (k + 1)) = max (most (l.take k)) x) := by show _ = _; rw [take_snoc hx, most_snoc]
      generalize most (l.take k) = v at HS hm ⊢
      clear hr1 hx hb1
      go_wp2
      go_round
      case rel => exact ⟨k + 1, by omega, by go_num, by rw [HS.out]⟩
      case measure => simp [intOf]; omega
    · obtain rfl : k = n := by omega
      have e : l.take k = l := List.take_of_length_le (by rw [HA.out.len]; exact Nat.le_refl _)
      rw [e] at hm ⊢
      generalize hv : most l = v at hm ⊢
      have HH : Hid (most l = v) := hv
      clear hv
      go_wp2
      go_ret
      exact ⟨by rw [HH.out]; rfl, rfl⟩
set_option maxRecDepth 100000 in
set_option maxHeartbeats 2000000 in
theorem height_any (w : World) (a : Option Addr) (n c : Nat) (K : List Hh) (h : St.At 38 he w a n K) (hn : n ≤ 1000000) :
    Calls Tryd.prog 27 #[.slice a n c] w fun e w' => e = .returned (.int .i64 (hgt K)) ∧ Keep (fun _ => False) w w' := by
  have HA : Hid (St.At 38 he w a n K) := h
  have HM0 : Hid (M (fun _ => False) w w []) := M.start _ w
  clear h
  go_enter Tryd.func27, Tryd.ntmps27
  go_wp2_with (first | (refine St.wl_make0 encN slInt (by decide) rfl rfl rfl rfl hn rfl ?_; intro w1 h1 k1 z1; have HM1 : Hid (M (fun _ => False) w w1 [rows 3 1 eN (.slice (some ⟨w.heap.size, 0, none⟩) 0 n) []]) := HM0.out.add (x := rows 3 1 eN (.slice (some ⟨w.heap.size, 0, none⟩) 0 n) []) k1 h1 (fun k hk => by have e : w.heap.size = k := Option.some.inj hk; omega); clear h1 k1 z1; simp only [Act.put, List.setIfInBounds_toArray, List.set_cons_zero, List.set_cons_succ]))
  go_loopw [3, 11] (fun s3 i wr => ∃ (k : Nat) (v : Value), k ≤ n ∧ i = .int .i64 k ∧ s3 = v ∧ M (fun _ => False) w wr [rows 3 1 eN v ((K.take k).map low)]) (fun _ i _ => n - (intOf i).toNat)
  case atStart => exact ⟨0, _, Nat.zero_le _, rfl, rfl, HM1.out⟩
  case round =>
    clear HM1
    obtain ⟨k, v, hk, rfl, hv, hM⟩ := hrel
    replace hv := hv.symm
    subst hv
    have HM : Hid _ := hM
    clear hM
    by_cases hlt : k < n
    · obtain ⟨x, hx⟩ : ∃ x, K[k]? = some x := ⟨_, List.getElem?_eq_getElem (by rw [HA.out.len]; exact hlt)⟩
      obtain ⟨b1, o1, rfl, hb1, hr1⟩ : ∃ b off, a = some ⟨b, off, none⟩ ∧ b < w.heap.size ∧ ∀ i x, K[i]? = some x → w.rangeAt b (off + i * 38) (he x) := by rcases HA.out.lay with e | e; omega; exact e
      have R1 : Hid (wr.rangeAt b1 (o1 + k * 38) (he x)) := HM.out.keep.range hb1 (fun h => h) (hr1 k x hx)
      have HS : Hid ((K.take (k + 1)).map low = (K.take k).map low ++ [low x]) := by show _ = _; rw [take_snoc hx, List.map_append]; rfl
      have Hl : Hid (((K.take k).map low).length ≤ 1000000) := by show _ ≤ _; rw [List.length_map, List.length_take]; omega
      have HC : Hid ((he x).toArray[1]? = some (.int .i64 x.G)) := (rfl : _ = _)
      have HLo : Hid (low x = min x.G 1073741824) := (rfl : _ = _)
      clear hr1 hx hb1
      go_wp2_with (first | ((with_reducible refine at_load 26 ?_); refine St.wl_load tyH (by rfl) rfl rfl R1.out (he_len x) ?_; simp only [Act.put, List.setIfInBounds_toArray, List.set_cons_zero, List.set_cons_succ]) | (refine St.wl_alloc tyH rfl rfl (by (try simp only [World.size_alloc]); rfl) ?_; simp only [Act.put, List.setIfInBounds_toArray, List.set_cons_zero, List.set_cons_succ]) | (refine St.wl_storeN (W := wr) tyH rfl rfl rfl rfl rfl rfl (show _ = Value.agg (he x).toArray from rfl) (he_sz x) rfl (he_one x) ?_; have HM : Hid _ := HM.out.alloc (.cells (he x).toArray 26) rfl; have c1 := HM.out.cell 1 rfl 1 (v := .int .i64 x.G) HC.out) | (have HM : Hid _ := HM.out.alloc (.cells #[.int .i64 (min x.G 1073741824)] 3) (b := wr.heap.size + 1) (by simp only [World.size_alloc]); refine St.wl_app1z encN slInt (by decide) rfl rfl rfl (HM.out.get 0 rfl) rfl (low x) (show _ = #[Value.int .i64 (min x.G 1073741824)] from rfl) (HM.out.get 2 rfl) Hl.out ?_; intro v5 w5 h1 k1 h3; have HM : Hid _ := HM.out.appR 0 rfl h1 k1 h3; clear h1 k1 h3; simp only [Act.put, List.setIfInBounds_toArray, List.set_cons_zero, List.set_cons_succ]))
      go_roundw
      case rel => exact ⟨k + 1, _, by omega, rfl, rfl, by rw [HS.out]; exact HM.out.take 1⟩
      case measure => simp [intOf]; omega
    · obtain rfl : k = n := by omega
      have e : K.take k = K := List.take_of_length_le (by rw [HA.out.len]; exact Nat.le_refl _)
      rw [e] at HM
      have hr := (show St.Own 3 1 eN wr _ (K.map low) from HM.out.get 0 rfl).any
      obtain ⟨a5, c5, e5, hat⟩ := hr
      have el : (K.map low).length = k := by rw [List.length_map, HA.out.len]
      rw [el] at e5 hat
      have HAt : Hid _ := hat
      subst e5
      clear hat el
      go_wp2_with (go_at_call 37; refine (above_any _ a5 k c5 (K.map low) HAt.out hn (fun y hy => by obtain ⟨z, _, rfl⟩ := List.mem_map.1 hy; exact low_le z)).mono ?_; rintro e w6 ⟨rfl, rfl⟩)
      go_ret
      exact ⟨rfl, HM.out.keep⟩
end Ru
end Go.Proofs.YthllhjdaknmlbaaDoor
