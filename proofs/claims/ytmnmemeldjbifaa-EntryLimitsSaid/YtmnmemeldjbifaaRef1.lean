/-
  Contracts of the document's answer for layer 1: numbers and texts as bytes; its reader.
-/
import Derived.Test.YtmnmemeldjbifaaRd3
import Derived.Handy
set_option linter.unusedVariables false
set_option linter.unusedSimpArgs false
namespace Go.Proofs.Ytmnmemeldjbifaa
open Go.RowKit
namespace Ref

theorem mk1 (u : World) : (Instr.makeSlice 53 (.int .i64 1) (.int .i64 1)).run Try.prog u = .ok (.slice (some ⟨u.heap.size, 0, none⟩) 1 1) (u.alloc (.cells #[.int .u8 0] 5)) := by kernel_rfl
theorem mk2 (u : World) : (Instr.makeSlice 53 (.int .i64 2) (.int .i64 2)).run Try.prog u = .ok (.slice (some ⟨u.heap.size, 0, none⟩) 2 2) (u.alloc (.cells #[.int .u8 0, .int .u8 0] 5)) := by kernel_rfl
theorem mk4 (u : World) : (Instr.makeSlice 53 (.int .i64 4) (.int .i64 4)).run Try.prog u = .ok (.slice (some ⟨u.heap.size, 0, none⟩) 4 4) (u.alloc (.cells #[.int .u8 0, .int .u8 0, .int .u8 0, .int .u8 0] 5)) := by kernel_rfl

theorem conv_new (w : World) (l : List UInt8) (cs : Array Value) (hcs : cs = (l.map Oct.bv).toArray) (n : Nat) (hn : n = l.length) (hl : l ≠ []) (hm : l.length ≤ 100) :
    (convert 53 9 (.slice (some ⟨w.heap.size, 0, none⟩) n n)).run Try.prog (w.alloc (.cells cs 5)) = .ok (.string ⟨l.toArray⟩) (w.alloc (.cells cs 5)) := by
  refine Oct.own_string _ l _ ⟨by simp, .inr ⟨w.heap.size, n, cs, ?_, Nat.zero_le _, heap_alloc_new w _, by omega, by unfold maxLen; omega, by rw [hcs]; simp; omega, ?_⟩⟩
  · rw [hn]
  · rw [hcs]; simp only [Nat.mul_one]; exact List.take_of_length_le (by simp)

theorem bv_mod (x : Int) : Value.int .u8 (x % 256) = Oct.bv (UInt8.ofNat (x % 256).toNat) := by
  have : (UInt8.ofNat (x % 256).toNat).toNat = (x % 256).toNat := by rw [UInt8.toNat_ofNat']; omega
  rw [Oct.bv, this]; congr 1; omega

set_option maxRecDepth 100000 in
theorem num1 (w : World) (n : Int) (hn0 : 0 ≤ n) (hn : n < 256) : Calls Try.prog 50 #[.int .i64 n, .int .i64 1] w fun e w' => e = .returned (.tuple #[.string ⟨(Oct.be 1 n).toArray⟩, .int .i64 0]) ∧ Keep (fun _ => False) w w' := by
  have hmk := mk1
  have hcv := conv_new w (Oct.be 1 n) #[.int .u8 (n % 256)] (by simp [Oct.be, bv_mod]) 1 (by simp [Oct.be]) (by simp [Oct.be]) (by simp [Oct.be])
  go_enter Try.func50, Try.ntmps50
  go_wp2
  go_rounds 1
  go_rounds 2
  go_ret2
  exact ⟨rfl, (Keep.refl _ _).alloc _⟩
set_option maxRecDepth 100000 in
theorem num2 (w : World) (n : Int) (hn0 : 0 ≤ n) (hn : n < 65536) : Calls Try.prog 50 #[.int .i64 n, .int .i64 2] w fun e w' => e = .returned (.tuple #[.string ⟨(Oct.be 2 n).toArray⟩, .int .i64 0]) ∧ Keep (fun _ => False) w w' := by
  have hmk := mk2
  have hcv := conv_new w (Oct.be 2 n) #[.int .u8 (n / 256 % 256), .int .u8 (n % 256)] (by simp [Oct.be, bv_mod]) 2 (by simp [Oct.be]) (by simp [Oct.be]) (by simp [Oct.be])
  go_enter Try.func50, Try.ntmps50
  go_wp2
  go_rounds 2
  go_rounds 3
  go_ret2
  exact ⟨rfl, (Keep.refl _ _).alloc _⟩
set_option maxRecDepth 100000 in
set_option maxHeartbeats 1000000 in
theorem num4 (w : World) (n : Int) (hn0 : 0 ≤ n) (hn : n < 4294967296) : Calls Try.prog 50 #[.int .i64 n, .int .i64 4] w fun e w' => e = .returned (.tuple #[.string ⟨(Oct.be 4 n).toArray⟩, .int .i64 0]) ∧ Keep (fun _ => False) w w' := by
  have hmk := mk4
  have hcv := conv_new w (Oct.be 4 n) #[.int .u8 (n / 256 / 256 / 256 % 256), .int .u8 (n / 256 / 256 % 256), .int .u8 (n / 256 % 256), .int .u8 (n % 256)] (by simp [Oct.be, bv_mod]) 4 (by simp [Oct.be]) (by simp [Oct.be]) (by simp [Oct.be])
  go_enter Try.func50, Try.ntmps50
  go_wp2
  go_rounds 4
  go_rounds 5
  go_ret2
  exact ⟨rfl, (Keep.refl _ _).alloc _⟩
set_option maxRecDepth 100000 in
theorem num_rng (w : World) (n k : Int) (hk : k = 1 ∨ k = 2 ∨ k = 4) (hn : n < 0 ∨ 256 ^ k.toNat ≤ n) : Calls Try.prog 50 #[.int .i64 n, .int .i64 k] w fun e w' => e = .returned (.tuple #[.string ByteArray.empty, .int .i64 5]) ∧ Keep (fun _ => False) w w' := by
  rcases hk with rfl | rfl | rfl
  · have hn' : n < 0 ∨ 256 ≤ n := by simpa using hn
    have hd : (decide (n < 0) || decide (256 ≤ n)) = true := by simpa using hn'
    clear hn hn'
    go_enter Try.func50, Try.ntmps50
    go_wp2
    go_rounds 1
    all_goals (go_ret2; exact ⟨rfl, Keep.refl _ _⟩)
  · have hn' : n < 0 ∨ 65536 ≤ n := by simpa using hn
    have hd : (decide (n < 0) || decide (65536 ≤ n)) = true := by simpa using hn'
    clear hn hn'
    go_enter Try.func50, Try.ntmps50
    go_wp2
    go_rounds 2
    all_goals (go_ret2; exact ⟨rfl, Keep.refl _ _⟩)
  · have hn' : n < 0 ∨ 4294967296 ≤ n := by simpa using hn
    have hd : (decide (n < 0) || decide (4294967296 ≤ n)) = true := by simpa using hn'
    clear hn hn'
    go_enter Try.func50, Try.ntmps50
    go_wp2
    go_rounds 4
    all_goals (go_ret2; exact ⟨rfl, Keep.refl _ _⟩)
set_option maxRecDepth 100000 in
theorem num_arg (w : World) (n k : Int) (h1 : k ≠ 1) (h2 : k ≠ 2) (h4 : k ≠ 4) : Calls Try.prog 50 #[.int .i64 n, .int .i64 k] w fun e w' => e = .returned (.tuple #[.string ByteArray.empty, .int .i64 1]) ∧ Keep (fun _ => False) w w' := by
  have e1 : (k != 1) = true := by simpa using h1
  have e2 : (k != 2) = true := by simpa using h2
  have e4 : (k != 4) = true := by simpa using h4
  clear h1 h2 h4
  go_enter Try.func50, Try.ntmps50
  go_wp2
  go_ret2
  exact ⟨rfl, Keep.refl _ _⟩

/-- What the document's 'Num' answers. -/
def rn (n k : Int) : List UInt8 × Int := if Oct.nbits k = 0 then ([], 1) else if n < 0 ∨ 256 ^ (Oct.nbits k / 8).toNat ≤ n then ([], 5) else (Oct.be (Oct.nbits k / 8).toNat n, 0)

theorem nbits_zero {k : Int} (h : Oct.nbits k = 0) : k ≠ 1 ∧ k ≠ 2 ∧ k ≠ 4 :=
  ⟨fun e => by subst e; simp [Oct.nbits] at h, fun e => by subst e; simp [Oct.nbits] at h, fun e => by subst e; simp [Oct.nbits] at h⟩
theorem nbits_some {k : Int} (h : Oct.nbits k ≠ 0) : k = 1 ∨ k = 2 ∨ k = 4 := by
  unfold Oct.nbits at h
  by_cases h4 : k = 4
  · omega
  by_cases h2 : k = 2
  · omega
  by_cases h1 : k = 1
  · omega
  simp [h4, h2, h1] at h

theorem num_any (w : World) (n k : Int) : Calls Try.prog 50 #[.int .i64 n, .int .i64 k] w fun e w' => e = .returned (.tuple #[.string ⟨(rn n k).1.toArray⟩, .int .i64 (rn n k).2]) ∧ Keep (fun _ => False) w w' := by
  by_cases hk : Oct.nbits k = 0
  · obtain ⟨h1, h2, h4⟩ := nbits_zero hk
    have e : rn n k = ([], 1) := by simp [rn, hk]
    rw [e]
    exact num_arg w n k h1 h2 h4
  have e0 : (Oct.nbits k / 8).toNat = k.toNat := by rcases nbits_some hk with rfl | rfl | rfl <;> rfl
  by_cases hr : n < 0 ∨ 256 ^ k.toNat ≤ n
  · have e : rn n k = ([], 5) := by unfold rn; rw [if_neg hk, e0, if_pos hr]
    rw [e]
    exact num_rng w n k (nbits_some hk) hr
  · have e : rn n k = (Oct.be k.toNat n, 0) := by unfold rn; rw [if_neg hk, e0, if_neg hr]
    rw [e]
    rcases nbits_some hk with rfl | rfl | rfl
    · exact num1 w n (by omega) (by simp at hr; omega)
    · exact num2 w n (by omega) (by simp at hr; omega)
    · exact num4 w n (by omega) (by simp at hr; omega)

/-- What the document's 'Text' answers. -/
def rt (s : ByteArray) : ByteArray × Int := if 65535 < s.size then (ByteArray.empty, 3) else (⟨(Oct.be 2 s.size).toArray⟩ ++ s, 0)

set_option maxRecDepth 100000 in
theorem text_any (w : World) (s : ByteArray) (hs : s.size ≤ maxLen) : Calls Try.prog 52 #[.string s] w fun e w' => e = .returned (.tuple #[.string (rt s).1, .int .i64 (rt s).2]) ∧ Keep (fun _ => False) w w' := by
  unfold maxLen at hs
  by_cases hl : 65535 < s.size
  · have e : rt s = (ByteArray.empty, 3) := by simp [rt, hl]
    rw [e]
    clear e
    go_enter Try.func52, Try.ntmps52
    go_wp2
    go_ret2
    exact ⟨rfl, Keep.refl _ _⟩
  · have e : rt s = (⟨(Oct.be 2 s.size).toArray⟩ ++ s, 0) := by simp [rt, hl]
    rw [e]
    clear e
    have hz : ((⟨(Oct.be 2 s.size).toArray⟩ : ByteArray)).size = 2 := rfl
    go_enter Try.func52, Try.ntmps52
    go_wp2_with (first | (go_at_call 50; refine (num2 _ s.size (by omega) (by omega)).mono ?_; rintro e w1 ⟨rfl, h1⟩))
    go_ret2
    exact ⟨rfl, h1⟩
end Ref
end Go.Proofs.Ytmnmemeldjbifaa
