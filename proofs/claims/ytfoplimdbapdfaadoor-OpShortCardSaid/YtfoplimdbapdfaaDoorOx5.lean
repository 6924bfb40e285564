/-
  op.short, op.refs: parts of an operation, written.
-/
import Derived.Test.YtfoplimdbapdfaaDoorOx2
import Derived.Test.YtfoplimdbapdfaaDoorGOc
import Derived.Test.YtfoplimdbapdfaaDoorGRd
set_option linter.unusedVariables false
set_option linter.unusedSimpArgs false
namespace Go.Proofs.YtfoplimdbapdfaaDoor
open Go.RowKit
namespace Ox
open Oct Ids
open OctRd (be_len)
open Mem (M)

/-- A text with its length. -/
def sh (s : ByteArray) : List UInt8 := be 1 s.size ++ s.data.toList
theorem sh_len (s : ByteArray) : (sh s).length = 1 + s.size := by unfold sh; rw [List.length_append, be_len, Array.length_toList]; rfl
/-- Ids, how many ahead. -/
def rf (l : List (List UInt8)) : List UInt8 := be 1 l.length ++ l.flatten
theorem num1_a (w : World) (b : Nat) (bs : List UInt8) (n : Int) (sv : Value) (h : IsW w b bs 0 sv) (hn : 0 ≤ n) (hn' : n < 256) (hl : bs.length ≤ 1000000000) :
    Calls Tryd.prog 49 #[.pointer (some ⟨b, 0, none⟩), .int .i64 n, .int .i64 1] w fun e w' => e = .returned (.pointer (some ⟨b, 0, none⟩)) ∧ ∃ sv', IsW w' b (bs ++ be 1 n) 0 sv' ∧ After w w' b sv sv' :=
  num_ok1 w b bs n sv h hn (by simpa using hn') (by omega)
set_option maxRecDepth 100000 in
theorem short_ok (w : World) (b : Nat) (bs : List UInt8) (s : ByteArray) (sv : Value) (h : IsW w b bs 0 sv) (hs : s.size ≤ 255) (hl : bs.length ≤ 1000000) :
    Calls Tryd.prog 81 #[.pointer (some ⟨b, 0, none⟩), .string s] w fun e w' => e = .returned (.tuple #[]) ∧ ∃ sv', IsW w' b (bs ++ sh s) 0 sv' ∧ After w w' b sv sv' := by
  have H : Hid (IsW w b bs 0 sv) := h
  have Hl : Hid ((bs ++ be 1 s.size).length + s.size ≤ 10000000000) := by show _ ≤ _; rw [List.length_append, be_len]; omega
  clear h
  go_enter Tryd.func81, Tryd.ntmps81
  go_wp2_with (first | (go_at_call 49; refine (num1_a _ b bs s.size sv H.out (by omega) (by omega) (by omega)).mono ?_; rintro e w1 ⟨rfl, sv1, h1, k1⟩; have H1 : Hid (IsW w1 b (bs ++ be 1 s.size) 0 sv1) := h1; have K1 : Hid (After w w1 b sv sv1) := k1; clear h1 k1) | (go_at_call 63; refine (OctW.wraw_ok _ b (bs ++ be 1 s.size) s sv1 H1.out Hl.out).mono ?_; rintro e w2 ⟨rfl, sv2, h2, k2⟩; have H2 : Hid (IsW w2 b (bs ++ be 1 s.size ++ s.data.toList) 0 sv2) := h2; have K2 : Hid (After w1 w2 b sv1 sv2) := k2; clear h2 k2))
  go_end0
  exact ⟨rfl, sv2, by rw [sh, ← List.append_assoc]; exact H2.out, K1.out.trans K2.out⟩
set_option maxRecDepth 100000 in
set_option maxHeartbeats 1000000 in
theorem refs_ok (w : World) (b : Nat) (bs : List UInt8) (a : Option Addr) (n c : Nat) (l : List (List UInt8)) (sv : Value) (h : IsW w b bs 0 sv) (hA : At w a n l) (hn : n ≤ 255) (hl : bs.length ≤ 1000000) (hna : n = 0 ∨ ∀ g o, a = some ⟨g, o, none⟩ → g ≠ b ∧ sv.ownBlock ≠ some g) :
    Calls Tryd.prog 82 #[.pointer (some ⟨b, 0, none⟩), .slice a n c] w fun e w' => e = .returned (.tuple #[]) ∧ ∃ sv', IsW w' b (bs ++ rf l) 0 sv' ∧ After w w' b sv sv' := by
  have H : Hid (IsW w b bs 0 sv) := h
  have A1 : Hid (At w a n l) := hA
  have HN : Hid (n = 0 ∨ ∀ g o, a = some ⟨g, o, none⟩ → g ≠ b ∧ sv.ownBlock ≠ some g) := hna
  clear h hA hna
  go_enter Tryd.func82, Tryd.ntmps82
  go_wp2_with (first | (go_at_call 49; refine (num1_a _ b bs n sv H.out (by omega) (by omega) (by omega)).mono ?_; rintro e w1 ⟨rfl, sv1, h1, k1⟩; have H1 : Hid (IsW w1 b (bs ++ be 1 n) 0 sv1) := h1; have K1 : Hid (After w w1 b sv sv1) := k1; clear h1 k1))
  go_loopw [12] (fun i wr => ∃ (k : Nat) (sv' : Value), k ≤ n ∧ i = .int .i64 k ∧ IsW wr b (bs ++ be 1 n ++ (l.take k).flatten) 0 sv' ∧ After w wr b sv sv') (fun i _ => n - (intOf i).toNat)
  case atStart => exact ⟨0, sv1, Nat.zero_le _, rfl, by simpa using H1.out, K1.out⟩
  case round =>
    obtain ⟨k, sv2, hk, rfl, h2, k2⟩ := hrel
    have HW : Hid (IsW wr b (bs ++ be 1 n ++ (l.take k).flatten) 0 sv2) := h2
    have HA : Hid (After w wr b sv sv2) := k2
    clear h2 k2
    by_cases hlt : k < n
    · obtain ⟨x, hx⟩ : ∃ x, l[k]? = some x := ⟨_, List.getElem?_eq_getElem (by rw [A1.out.len]; omega)⟩
      obtain ⟨g, off, ha, hg, hr⟩ : ∃ b off, a = some ⟨b, off, none⟩ ∧ b < w.heap.size ∧ ∀ i x, l[i]? = some x → w.rangeAt b (off + i * 32) (x.map bv) := by rcases A1.out.lay with e | e; omega; exact e
      have lx := A1.out.size x (List.mem_of_getElem? hx)
      obtain ⟨n1, n2⟩ := (HN.out.resolve_left (by omega)) g off ha
      subst ha
      have Hld : Hid _ := HA.out.1.range hg (fun e => by rcases e with e | e; exact n1 e; exact n2 e) (hr k x hx)
      have Lx : Hid _ := lx
      have hcv := conv_id (wr.alloc (.cells (x.map bv).toArray 24)) wr.heap.size 0 x lx 32 (range_new wr _ _)
      have Hx : Hid _ := hx
      have hfl := flat_take l k A1.out.size (by rw [A1.out.len]; omega)
      have Hln : Hid ((bs ++ be 1 n ++ (l.take k).flatten).length + (⟨x.toArray⟩ : ByteArray).size ≤ 10000000000) := by
        show (bs ++ be 1 n ++ (l.take k).flatten).length + (⟨x.toArray⟩ : ByteArray).size ≤ 10000000000
        rw [List.length_append, hfl, Byt.arr_size, lx, List.length_append, be_len]
        omega
      clear hr hx hg lx hfl n1 n2
      go_wp2_with (first | (refine Ids.wl_load rfl rfl rfl Lx.out Hld.out ?_; simp only [Act.put, List.setIfInBounds_toArray, List.set_cons_zero, List.set_cons_succ]) | (refine wl_store_new rfl rfl rfl rfl rfl Lx.out rfl ?_) | (go_at_call 63; refine (OctW.wraw_ok _ b _ _ sv2 (HW.out.keep ((Keep.refl (fun _ => False) _).alloc _) (fun h => h) (fun _ _ h => h)) Hln.out).mono ?_; rintro e w5 ⟨rfl, sv3, h3, k3⟩; have H3 : Hid _ := h3; have K3 : Hid _ := k3; clear h3 k3))
      go_roundw
      case rel => exact ⟨k + 1, sv3, by omega, rfl, by rw [take_flat l k x Hx.out, ← List.append_assoc]; exact H3.out, HA.out.trans (After.trans ⟨(Keep.refl _ _).alloc _, fun _ h => .inl h⟩ K3.out)⟩
      case measure => simp [intOf]; omega
    · obtain rfl : k = n := by omega
      go_wp2
      go_end0
      exact ⟨rfl, sv2, by rw [rf, A1.out.len, ← List.append_assoc]; have := HW.out; rwa [List.take_of_length_le (by rw [A1.out.len]; exact Nat.le_refl _)] at this, HA.out⟩
end Ox
end Go.Proofs.YtfoplimdbapdfaaDoor
