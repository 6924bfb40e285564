/-
  Messages, there and back: plain law.
-/
import Derived.Test.YtmnmemeldjbifaaMsgA
import Derived.Test.YtmnmemeldjbifaaSeg
namespace Go.Proofs.Ytmnmemeldjbifaa
open Go.RowKit
namespace Ms
open Oct Ids OctRd Seg
open Ref (endv)

theorem dr_zero (s : ByteArray) : dr s 0 = s.data.toList := rfl
theorem enc_len (K : Int) (n : Nat) (B : ByteArray) (l : List (List UInt8)) (hs : ∀ x ∈ l, x.length = 32) (hl : l.length = n) (hc : chk K n B = 0) : (enc K n B l).length ≤ 1024 := by
  rcases knd_or K with hk | hk | hk
  · rw [chk_0 hk] at hc; omega
  · obtain ⟨h1, _⟩ := chk_ids hc hk
    unfold enc
    rw [if_pos hk, List.length_append, List.length_append, be_len, be_len, flat_len l hs]
    omega
  · obtain ⟨_, h1, _⟩ := chk_body hc hk
    unfold enc
    rw [if_neg (by omega), List.length_append, List.length_append, be_len, be_len, len_s]
    omega
/-- What was put is read as it was. -/
theorem ofv_enc (K : Int) (n : Nat) (B : ByteArray) (l : List (List UInt8)) (hs : ∀ x ∈ l, x.length = 32) (hl : l.length = n) (hc : chk K n B = 0) : ofv ⟨(enc K n B l).toArray⟩ = ⟨0, K, l, B⟩ := by
  have hlen := enc_len K n B l hs hl hc
  obtain ⟨T, hT⟩ : ∃ T : ByteArray, (⟨(enc K n B l).toArray⟩ : ByteArray) = T := ⟨_, rfl⟩
  have hTl : dr T 0 = enc K n B l := by rw [← hT, dr_zero]
  have hTs : T.size = (enc K n B l).length := by rw [← hT]; exact arr_size _
  rw [hT]
  rcases knd_or K with hk | hk | hk
  · rw [chk_0 hk] at hc; omega
  · obtain ⟨h1, h2⟩ := chk_ids hc hk
    have hr := knd_rng (K := K) (by omega)
    obtain rfl := empty_of h2
    unfold enc at hTl
    rw [if_pos hk] at hTl
    obtain ⟨a1, a2, a3⟩ := num_seg (k := 1) hTl (by decide) (by decide) (by omega) (by omega) (Nat.zero_le _)
    obtain ⟨b1, b2, b3⟩ := num_seg (k := 1) a2 (by decide) (by decide) (by omega) (by omega) a3
    obtain ⟨c1, c2, c3⟩ := ids_seg b3 l [] hs (by rw [List.append_nil]; exact b2) n (by omega)
    have hKn : ((K.toNat : Nat) : Int) = K := Int.toNat_of_nonneg (by omega)
    have he : endv T (0 + 1 + 1 + 32 * n) 0 = 0 := by
      unfold endv
      rw [if_pos rfl, if_pos]
      rw [hTs]
      unfold enc
      rw [if_pos hk, List.length_append, List.length_append, be_len, be_len, flat_len l hs]
      omega
    unfold ofv
    simp only [if_neg (show ¬ 1024 < T.size by omega), a1, ne_eq, not_true_eq_false, if_false, hKn, if_neg (show ¬ knd K = 0 by omega), if_pos hk, b1, Int.toNat_natCast, c1, he, hc]
    rw [List.take_of_length_le (by omega)]
  · obtain ⟨h0, h1, h2⟩ := chk_body hc hk
    have hr := knd_rng (K := K) (by omega)
    subst h0
    obtain rfl := List.eq_nil_of_length_eq_zero hl
    unfold enc at hTl
    rw [if_neg (by omega)] at hTl
    obtain ⟨a1, a2, a3⟩ := num_seg (k := 1) hTl (by decide) (by decide) (by omega) (by omega) (Nat.zero_le _)
    obtain ⟨b1, b2, b3⟩ := text_seg (r := []) (by rw [List.append_nil]; exact a2) (by omega) a3
    have hKn : ((K.toNat : Nat) : Int) = K := Int.toNat_of_nonneg (by omega)
    have he : endv T (0 + 1 + 2 + B.size) 0 = 0 := by
      unfold endv
      rw [if_pos rfl, if_pos]
      rw [hTs]
      unfold enc
      rw [if_neg (by omega), List.length_append, List.length_append, be_len, be_len, len_s]
      omega
    unfold ofv
    simp only [if_neg (show ¬ 1024 < T.size by omega), a1, ne_eq, not_true_eq_false, if_false, hKn, if_neg (show ¬ knd K = 0 by omega), if_neg (show ¬ knd K = 1 by omega), b1, he, hc]
/-- What was read is put as it was. -/
theorem enc_ofv (s : ByteArray) (h : (ofv s).e = 0) : chk (ofv s).K (ofv s).ids.length (ofv s).B = 0 ∧ (⟨(enc (ofv s).K (ofv s).ids.length (ofv s).B (ofv s).ids).toArray⟩ : ByteArray) = s ∧ (∀ x ∈ (ofv s).ids, x.length = 32) := by
  have fin : ∀ l : List UInt8, dr s 0 = l → (⟨l.toArray⟩ : ByteArray) = s := fun l hl => by
    rw [← hl, dr_zero]
  obtain ⟨p, hp⟩ : ∃ p, rnum s 0 0 1 = p := ⟨_, rfl⟩
  obtain ⟨n, a1, b1⟩ := p
  obtain ⟨o, ho⟩ : ∃ o, ofv s = o := ⟨_, rfl⟩
  rw [ho] at h ⊢
  unfold ofv at ho
  rw [hp] at ho
  simp only at ho
  split at ho
  · subst ho; simp at h
  split at ho
  · rename_i hb; subst ho; exact absurd h hb
  rename_i hb
  have hb' : b1 = 0 := by simpa using hb
  subst hb'
  obtain ⟨e1, l1⟩ := num_ok (k := 1) (m := 1) (by decide) (by decide) hp (Nat.zero_le _)
  split at ho
  · subst ho; simp at h
  split at ho
  · rename_i hk1
    obtain ⟨q, hq⟩ : ∃ q, rnum s a1 0 1 = q := ⟨_, rfl⟩
    obtain ⟨n2, a2, b2⟩ := q
    rw [hq] at ho
    simp only at ho
    split at ho
    · rename_i he; subst ho; exact absurd h he
    rename_i he
    have he' : endv s (rdIds s a2 b2 n2).2.1 (rdIds s a2 b2 n2).2.2 = 0 := by simpa using he
    split at ho
    · rename_i hc; subst ho; exact absurd h hc
    rename_i hc
    have hc' : chk n n2 ByteArray.empty = 0 := by simpa using hc
    subst ho
    obtain ⟨x1, x2⟩ := end_ok he'
    have hb2 : b2 = 0 := by
      by_cases e : b2 = 0
      · exact e
      · rw [ids_stuck s a2 b2 e] at x2; exact x2
    subst hb2
    obtain ⟨e2, l2⟩ := num_ok (k := 1) (m := 1) (by decide) (by decide) hq l1
    obtain ⟨e3, l3⟩ := ids_ok s a2 l2 n2 x2
    rw [x1, dr_end, List.append_nil] at e3
    refine ⟨by simp only [rdIds_len]; exact hc', fin _ ?_, ids_each _ _ _ _⟩
    unfold enc
    simp only [rdIds_len]
    rw [if_pos hk1, e1, e2, e3]
  · rename_i hk0 hk1
    obtain ⟨q, hq⟩ : ∃ q, rtext s a1 0 65535 = q := ⟨_, rfl⟩
    obtain ⟨x, a2, b2⟩ := q
    rw [hq] at ho
    simp only at ho
    split at ho
    · rename_i he; subst ho; exact absurd h he
    rename_i he
    have he' : endv s a2 b2 = 0 := by simpa using he
    split at ho
    · rename_i hc; subst ho; exact absurd h hc
    rename_i hc
    have hc' : chk n 0 x = 0 := by simpa using hc
    subst ho
    obtain ⟨x1, x2⟩ := end_ok he'
    subst x2
    obtain ⟨e2, l2⟩ := text_ok hq l1
    rw [x1, dr_end, List.append_nil] at e2
    refine ⟨hc', fin _ ?_, by simp⟩
    unfold enc
    simp only
    rw [if_neg hk1, e1, e2]
theorem ofv_err (s : ByteArray) (h : (ofv s).e ≠ 0) : (ofv s).K = 0 ∧ (ofv s).ids = [] ∧ (ofv s).B = ByteArray.empty := by
  obtain ⟨o, ho⟩ : ∃ o, ofv s = o := ⟨_, rfl⟩
  rw [ho] at h ⊢
  unfold ofv at ho
  simp only at ho
  repeat' split at ho
  all_goals
    subst ho
    first
      | exact ⟨rfl, rfl, rfl⟩
      | exact absurd rfl h
end Ms
end Go.Proofs.Ytmnmemeldjbifaa
