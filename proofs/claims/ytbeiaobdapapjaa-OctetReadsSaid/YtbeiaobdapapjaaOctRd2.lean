/-
  'petrellaw01.OctetReads': any bytes, by any row of calls: what each answers, what is left, the first error.
-/
import Derived.Test.YtbeiaobdapapjaaOctRd
namespace Go.Proofs.Ytbeiaobdapapjaa
open Go.RowKit
namespace OctRd
open Oct Ref Act1 Go.ChangeShapes Go.WideShapes Go.ChangeAt
open Go.ChangeMaps (open_string shut_string)

/-- The relation of the loop. -/
structure Rel (W wr : World) (s : ByteArray) (bx at_ : Nat) (bad : Int) : Prop where
  r : IsR wr W.heap.size s at_ bad
  x : IsX wr bx (s.extract at_ s.size) bad
  keep : Keep (fun y => W.heap.size ≤ y) W wr
  ne : W.heap.size < bx

theorem left_v (w : World) (b : Nat) (s : ByteArray) (at_ : Nat) (bad lv : Int) (h : IsR w b s at_ bad) (hv : (if bad = 0 then (s.size : Int) - at_ else 0) = lv) : Calls Try.prog 23 #[.pointer (some ⟨b, 0, none⟩)] w fun e w' =>
    e = .returned (.int .i64 lv) ∧ Keep (fun _ => False) w w' := by rw [← hv]; exact left_any w b s at_ bad h
theorem end_v (w : World) (b : Nat) (s : ByteArray) (at_ : Nat) (bad ev : Int) (h : IsR w b s at_ bad) (hv : (if bad = 0 then (if at_ = s.size then (0 : Int) else 4) else bad) = ev) : Calls Try.prog 25 #[.pointer (some ⟨b, 0, none⟩)] w fun e w' =>
    e = .returned (.int .i64 ev) ∧ Keep (fun _ => False) w w' := by rw [← hv]; exact end_any w b s at_ bad h
theorem xend_v (w : World) (b : Nat) (s : ByteArray) (e ev : Int) (h : IsX w b s e) (hv : xendv s e = ev) : Calls Try.prog 26 #[.pointer (some ⟨b, 0, none⟩)] w fun en w' =>
    en = .returned (.int .i64 ev) ∧ w = w' := by rw [← hv]; exact xend_any w b s e h
theorem _root_.Go.Proofs.Ytbeiaobdapapjaa.Keep.still {S : Nat → Prop} {a b c : World} (h : Keep S a b) (k : Keep (fun _ => False) b c) : Keep S a c := h.trans' k (fun _ _ h => h) (fun _ _ h => h.elim)
theorem _root_.Go.Proofs.Ytbeiaobdapapjaa.Keep.atb {B b : Nat} {W a c : World} (h : Keep (fun y => B ≤ y) W a) (k : Keep (fun y => y = b) a c) (hb : B ≤ b) : Keep (fun y => B ≤ y) W c :=
  h.trans' k (fun _ _ h => h) (fun y _ (e : y = b) => by omega)
set_option maxHeartbeats 4000000 in
set_option maxRecDepth 100000 in
theorem go (s : ByteArray) (b0 off len cap : Nat) (els : List OAct) (W : World) (hs : s.size ≤ maxLen) (hels : els.length = len) (hpos : 0 < len) (hb0 : b0 < W.heap.size) (hlm : len ≤ maxLen)
    (hat : ∀ i x, els[i]? = some x → W.rangeAt b0 (off + i * 4) (lay x) ∧ fact W x) :
    Calls Try.prog 4 #[.string s, .slice (some ⟨b0, off, none⟩) len cap] W fun e W' => e = .returned (.bool true) ∧ Below W.heap.size W W' := by
  unfold maxLen at hlm
  go_enter Try.func4, Try.ntmps4
  go_wp2_with (first | (go_at_call 16; refine (open_any _ s hs).mono ?_; rintro e w1 ⟨rfl, h1, k1⟩; have H1 : Hid _ := h1; have K1 : Hid _ := k1; clear h1 k1))
  have hl1 : W.heap.size < w1.heap.size := lt_of_block H1.out.blk
  have Hl1 : Hid _ := hl1
  clear hl1
  go_loopw [7] (fun i wr => ∃ (k at_ : Nat) (bad : Int), (k ≤ len ∧ k ≤ 60) ∧ i = .int .i64 k ∧ Rel W wr s w1.heap.size at_ bad) (fun i _ => len - (intOf i).toNat)
  case atStart =>
    refine ⟨0, 0, 0, by omega, rfl, H1.out.keep ((Keep.refl (fun _ => False) _).alloc _) (fun h => h), ?_, (K1.out.mono (fun _ _ h => h.elim)).alloc _, Hl1.out⟩
    rw [show s.extract 0 s.size = s from by simp]
    exact ⟨heap_alloc_new w1 _, hs⟩
  case round =>
    obtain ⟨k, at_, bad, hk, rfl, hrel⟩ := hrel
    by_cases hlt : k < len ∧ k < 60
    · obtain ⟨hlt, h60⟩ := hlt
      obtain ⟨x, hx⟩ : ∃ x, els[k]? = some x := ⟨_, List.getElem?_eq_getElem (by omega)⟩
      obtain ⟨K, N, Z, S, u⟩ := x
      have Hr : Hid _ := (hat k _ hx).1
      have hKw : Hid (Keep (fun y => W.heap.size ≤ y) W wr) := hrel.keep
      have HR : Hid _ := hrel.r
      have HX : Hid _ := hrel.x
      have hle := hrel.r.le
      clear hrel hx hat
      obtain ⟨g0, g1, g2, g3⟩ := cells4 Hr.out hKw.out hb0
      simp only at g0 g1 g2 g3
      by_cases hK : K = 0
      · subst hK
        obtain ⟨⟨n', at', bad'⟩, hn⟩ : ∃ z, rnum s at_ bad Z = z := ⟨_, rfl⟩
        have hn2 := num_law s at_ bad Z hle
        rw [hn] at hn2
        have Hn : Hid _ := hn
        have Hn2 : Hid (xnum (s.extract at_ s.size) bad Z = (n', s.extract at' s.size, bad')) := hn2
        clear hn hn2
        go_wp2
        refine Txt.wp_region_text (fun w' => w'.cell? ⟨b0, off + k * 4 + 2, none⟩ = some (.int .i64 Z)) [0, 0, 0, 0, 0, 1, 4, 0, 0, 0, 0, 0, 2, 4, 0, 0] (by kernel_rfl) (by kernel_rfl) g2 ?_
        repeat (first
          | (refine Txt.tl_pure (v := ?_) (by rfl) ?_ ?_; rotate_left; (focus (intro _; go_simp; try with_reducible rfl)); simp only [Act.put, List.setIfInBounds_toArray, List.set_cons_zero, List.set_cons_succ])
          | (refine Txt.tl_skip (by rfl) trivial ?_; simp only [Act.put, List.setIfInBounds_toArray, List.set_cons_zero, List.set_cons_succ])
          | (refine Txt.tl_load (v := ?_) (by rfl) (by rfl) (by rfl) (by kernel_rfl) ?_ ?_; rotate_left; (focus (first | assumption | (go_simp; done) | (go_simp; with_reducible rfl))); simp only [Act.put, List.setIfInBounds_toArray, List.set_cons_zero, List.set_cons_succ])
          | (refine Txt.tl_alloc (by rfl) ?_; go_simp; refine ⟨by (first | exact Txt.Le.alloc_drew _ _ | exact Txt.Le.alloc _ _), ?_⟩))
        refine Txt.tl_loud (by rfl) ?_
        go_simp
        refine (rnum_any _ W.heap.size s at_ bad Z (HR.out.keep (Keep.refl (fun _ => False) _).drew (fun h => h))).mono ?_
        rw [Hn.out]
        rintro e w2 ⟨rfl, h2, k2⟩
        have Hw2 : Hid _ := h2
        have Hk2 : Hid (Keep _ wr w2) := (Keep.refl _ wr).drew.trans k2
        have Hx2 : Hid (IsX w2 w1.heap.size (s.extract at_ s.size) bad) := HX.out.keep Hk2.out (fun h => by have := Hl1.out; omega)
        have Hkw2 : Hid _ := hKw.out.atb Hk2.out (Nat.le_refl _)
        clear h2 k2
        obtain ⟨q0, q1, q2, q3⟩ := cells4 Hr.out Hkw2.out hb0
        simp only at q0 q1 q2 q3
        dsimp only
        refine ⟨q2, ?_⟩
        repeat (first
          | (refine Txt.tl_pure (v := ?_) (by rfl) ?_ ?_; rotate_left; (focus (intro _; go_simp; try with_reducible rfl)); simp only [Act.put, List.setIfInBounds_toArray, List.set_cons_zero, List.set_cons_succ])
          | (refine Txt.tl_skip (by rfl) trivial ?_; simp only [Act.put, List.setIfInBounds_toArray, List.set_cons_zero, List.set_cons_succ])
          | (refine Txt.tl_load (v := ?_) (by rfl) (by rfl) (by rfl) (by kernel_rfl) ?_ ?_; rotate_left; (focus (first | assumption | (go_simp; done) | (go_simp; with_reducible rfl))); simp only [Act.put, List.setIfInBounds_toArray, List.set_cons_zero, List.set_cons_succ])
          | (refine Txt.tl_alloc (by rfl) ?_; go_simp; refine ⟨by (first | exact Txt.Le.alloc_drew _ _ | exact Txt.Le.alloc _ _), ?_⟩))
        refine Txt.tl_loadS (v := .int .i64 Z) (by rfl) (by rfl) (by rfl) (by kernel_rfl) (fun _ h => h) ?_
        simp only [Act.put, List.setIfInBounds_toArray, List.set_cons_zero, List.set_cons_succ]
        refine Txt.tl_loud (by rfl) ?_
        go_simp
        refine (xnum_any _ w1.heap.size (s.extract at_ s.size) bad Z Hx2.out).mono ?_
        rw [Hn2.out]
        rintro e w3 ⟨rfl, h3, k3⟩
        have Hx3 : Hid _ := h3
        have Hr3 : Hid (IsR w3 W.heap.size s at' bad') := Hw2.out.keep k3 (fun h => by have := Hl1.out; omega)
        have Hkw3 : Hid (Keep _ W w3) := Hkw2.out.atb k3 (Nat.le_of_lt Hl1.out)
        clear h3 k3
        obtain ⟨p0, p1, p2, p3⟩ := cells4 Hr.out Hkw3.out hb0
        simp only at p0 p1 p2 p3
        dsimp only
        refine ⟨p2, ?_⟩
        repeat (first
          | (refine Txt.tl_pure (v := ?_) (by rfl) ?_ ?_; rotate_left; (focus (intro _; go_simp; try with_reducible rfl)); simp only [Act.put, List.setIfInBounds_toArray, List.set_cons_zero, List.set_cons_succ])
          | (refine Txt.tl_skip (by rfl) trivial ?_; simp only [Act.put, List.setIfInBounds_toArray, List.set_cons_zero, List.set_cons_succ])
          | (refine Txt.tl_load (v := ?_) (by rfl) (by rfl) (by rfl) (by kernel_rfl) ?_ ?_; rotate_left; (focus (first | assumption | (go_simp; done) | (go_simp; with_reducible rfl))); simp only [Act.put, List.setIfInBounds_toArray, List.set_cons_zero, List.set_cons_succ])
          | (refine Txt.tl_alloc (by rfl) ?_; go_simp; refine ⟨by (first | exact Txt.Le.alloc_drew _ _ | exact Txt.Le.alloc _ _), ?_⟩))
        refine Txt.tl_nil ?_
        obtain ⟨rm, hrm⟩ : ∃ rm, s.extract at' s.size = rm := ⟨_, rfl⟩
        obtain ⟨lv, hlv⟩ : ∃ lv, (if bad' = 0 then (s.size : Int) - at' else 0) = lv := ⟨_, rfl⟩
        obtain ⟨ev, hev⟩ : ∃ ev, (if bad' = 0 then (if at' = s.size then (0 : Int) else 4) else bad') = ev := ⟨_, rfl⟩
        have hrs : (rm.size : Int) = (s.size : Int) - at' := by have h1 := Hr3.out.le; rw [← hrm, ByteArray.size_extract]; omega
        have hxe : xendv rm bad' = ev := by have h1 := Hr3.out.le; rw [← hev]; unfold xendv; by_cases h0 : bad' = 0 <;> simp only [h0, if_true, if_false]; by_cases h2 : at' = s.size; (rw [if_pos (by omega), if_pos h2]); (rw [if_neg (by omega), if_neg h2])
        have Hx4 : Hid (IsX w3 w1.heap.size rm bad') := by rw [← hrm]; exact Hx3.out
        have x0 : w3.cell? ⟨w1.heap.size, 0, none⟩ = some (.string rm) := by rw [cell_of Hx4.out.blk]; rfl
        have x1 : w3.cell? ⟨w1.heap.size, 1, none⟩ = some (.int .i64 bad') := by rw [cell_of Hx4.out.blk]; rfl
        have Hlv : Hid _ := hlv
        have Hev : Hid _ := hev
        have Hxe : Hid _ := hxe
        have Hrs : Hid _ := hrs
        clear hrm hlv hev hrs hxe
        by_cases hb : bad' = 0
        · subst hb
          have hle : (lv != (rm.size : Int)) = false := by have h1 := Hlv.out; have h2 := Hrs.out; simp only [if_true] at h1; simp; omega
          go_wp2
          refine Txt.wp_region_text (fun w' => w'.cell? ⟨w1.heap.size, 1, none⟩ = some (.int .i64 (0))) [0, 0, 0, 0, 4, 0, 0, 0, 0, 0, 4, 0, 0, 0, 2, 0, 0, 0, 0, 4, 0, 4, 0, 0] (by kernel_rfl) (by kernel_rfl) x1 ?_
          repeat (first
            | (refine Txt.tl_pure (v := ?_) (by rfl) ?_ ?_; rotate_left; (focus (intro _; go_simp; try with_reducible rfl)); simp only [Act.put, List.setIfInBounds_toArray, List.set_cons_zero, List.set_cons_succ])
            | (refine Txt.tl_skip (by rfl) trivial ?_; simp only [Act.put, List.setIfInBounds_toArray, List.set_cons_zero, List.set_cons_succ])
            | (refine Txt.tl_load (v := ?_) (by rfl) (by rfl) (by rfl) (by kernel_rfl) ?_ ?_; rotate_left; (focus (first | assumption | (go_simp; done) | (go_simp; with_reducible rfl))); simp only [Act.put, List.setIfInBounds_toArray, List.set_cons_zero, List.set_cons_succ])
            | (refine Txt.tl_alloc (by rfl) ?_; go_simp; refine ⟨by (first | exact Txt.Le.alloc_drew _ _ | exact Txt.Le.alloc _ _), ?_⟩))
          refine Txt.tl_loud (by rfl) ?_
          go_simp
          refine (left_v _ W.heap.size s at' _ lv (Hr3.out.keep (Keep.refl (fun _ => False) _).drew (fun h => h)) Hlv.out).mono ?_
          rintro e w4 ⟨rfl, k4⟩
          have Hk4 : Hid (Keep _ w3 w4) := (Keep.refl _ w3).drew.trans k4
          have y1 : w4.cell? ⟨w1.heap.size, 1, none⟩ = some (.int .i64 (0)) := (Hk4.out.cell (lt_of_block Hx4.out.blk) (fun h => h)).trans x1
          clear k4
          dsimp only
          refine ⟨y1, ?_⟩
          repeat (first
            | (refine Txt.tl_pure (v := ?_) (by rfl) ?_ ?_; rotate_left; (focus (intro _; go_simp; try with_reducible rfl)); simp only [Act.put, List.setIfInBounds_toArray, List.set_cons_zero, List.set_cons_succ])
            | (refine Txt.tl_skip (by rfl) trivial ?_; simp only [Act.put, List.setIfInBounds_toArray, List.set_cons_zero, List.set_cons_succ])
            | (refine Txt.tl_load (v := ?_) (by rfl) (by rfl) (by rfl) (by kernel_rfl) ?_ ?_; rotate_left; (focus (first | assumption | (go_simp; done) | (go_simp; with_reducible rfl))); simp only [Act.put, List.setIfInBounds_toArray, List.set_cons_zero, List.set_cons_succ])
            | (refine Txt.tl_alloc (by rfl) ?_; go_simp; refine ⟨by (first | exact Txt.Le.alloc_drew _ _ | exact Txt.Le.alloc _ _), ?_⟩))
          refine Txt.tl_loud (by rfl) ?_
          go_simp
          refine (err_any _ W.heap.size s at' _ (Hr3.out.keep Hk4.out (fun h => h))).mono ?_
          rintro e w5 ⟨rfl, rfl⟩
          dsimp only
          refine ⟨y1, ?_⟩
          repeat (first
            | (refine Txt.tl_pure (v := ?_) (by rfl) ?_ ?_; rotate_left; (focus (intro _; go_simp; try with_reducible rfl)); simp only [Act.put, List.setIfInBounds_toArray, List.set_cons_zero, List.set_cons_succ])
            | (refine Txt.tl_skip (by rfl) trivial ?_; simp only [Act.put, List.setIfInBounds_toArray, List.set_cons_zero, List.set_cons_succ])
            | (refine Txt.tl_load (v := ?_) (by rfl) (by rfl) (by rfl) (by kernel_rfl) ?_ ?_; rotate_left; (focus (first | assumption | (go_simp; done) | (go_simp; with_reducible rfl))); simp only [Act.put, List.setIfInBounds_toArray, List.set_cons_zero, List.set_cons_succ])
            | (refine Txt.tl_alloc (by rfl) ?_; go_simp; refine ⟨by (first | exact Txt.Le.alloc_drew _ _ | exact Txt.Le.alloc _ _), ?_⟩))
          refine Txt.tl_loadS (v := .int .i64 (0)) (by rfl) (by rfl) (by rfl) (by kernel_rfl) (fun _ h => h) ?_
          simp only [Act.put, List.setIfInBounds_toArray, List.set_cons_zero, List.set_cons_succ]
          repeat (first
            | (refine Txt.tl_pure (v := ?_) (by rfl) ?_ ?_; rotate_left; (focus (intro _; go_simp; try with_reducible rfl)); simp only [Act.put, List.setIfInBounds_toArray, List.set_cons_zero, List.set_cons_succ])
            | (refine Txt.tl_skip (by rfl) trivial ?_; simp only [Act.put, List.setIfInBounds_toArray, List.set_cons_zero, List.set_cons_succ])
            | (refine Txt.tl_load (v := ?_) (by rfl) (by rfl) (by rfl) (by kernel_rfl) ?_ ?_; rotate_left; (focus (first | assumption | (go_simp; done) | (go_simp; with_reducible rfl))); simp only [Act.put, List.setIfInBounds_toArray, List.set_cons_zero, List.set_cons_succ])
            | (refine Txt.tl_alloc (by rfl) ?_; go_simp; refine ⟨by (first | exact Txt.Le.alloc_drew _ _ | exact Txt.Le.alloc _ _), ?_⟩))
          refine Txt.tl_loud (by rfl) ?_
          go_simp
          refine (end_v _ W.heap.size s at' _ ev (Hr3.out.keep Hk4.out (fun h => h)) Hev.out).mono ?_
          rintro e w6 ⟨rfl, k6⟩
          have Hk6 : Hid (Keep _ w3 w6) := Hk4.out.trans k6
          have z1 : w6.cell? ⟨w1.heap.size, 1, none⟩ = some (.int .i64 (0)) := (Hk6.out.cell (lt_of_block Hx4.out.blk) (fun h => h)).trans x1
          clear k6
          dsimp only
          refine ⟨z1, ?_⟩
          repeat (first
            | (refine Txt.tl_pure (v := ?_) (by rfl) ?_ ?_; rotate_left; (focus (intro _; go_simp; try with_reducible rfl)); simp only [Act.put, List.setIfInBounds_toArray, List.set_cons_zero, List.set_cons_succ])
            | (refine Txt.tl_skip (by rfl) trivial ?_; simp only [Act.put, List.setIfInBounds_toArray, List.set_cons_zero, List.set_cons_succ])
            | (refine Txt.tl_load (v := ?_) (by rfl) (by rfl) (by rfl) (by kernel_rfl) ?_ ?_; rotate_left; (focus (first | assumption | (go_simp; done) | (go_simp; with_reducible rfl))); simp only [Act.put, List.setIfInBounds_toArray, List.set_cons_zero, List.set_cons_succ])
            | (refine Txt.tl_alloc (by rfl) ?_; go_simp; refine ⟨by (first | exact Txt.Le.alloc_drew _ _ | exact Txt.Le.alloc _ _), ?_⟩))
          refine Txt.tl_loud (by rfl) ?_
          go_simp
          refine (xend_v _ w1.heap.size rm _ ev (Hx4.out.keep Hk6.out (fun h => h)) Hxe.out).mono ?_
          rintro e w7 ⟨rfl, rfl⟩
          dsimp only
          refine ⟨z1, ?_⟩
          repeat (first
            | (refine Txt.tl_pure (v := ?_) (by rfl) ?_ ?_; rotate_left; (focus (intro _; go_simp; try with_reducible rfl)); simp only [Act.put, List.setIfInBounds_toArray, List.set_cons_zero, List.set_cons_succ])
            | (refine Txt.tl_skip (by rfl) trivial ?_; simp only [Act.put, List.setIfInBounds_toArray, List.set_cons_zero, List.set_cons_succ])
            | (refine Txt.tl_load (v := ?_) (by rfl) (by rfl) (by rfl) (by kernel_rfl) ?_ ?_; rotate_left; (focus (first | assumption | (go_simp; done) | (go_simp; with_reducible rfl))); simp only [Act.put, List.setIfInBounds_toArray, List.set_cons_zero, List.set_cons_succ])
            | (refine Txt.tl_alloc (by rfl) ?_; go_simp; refine ⟨by (first | exact Txt.Le.alloc_drew _ _ | exact Txt.Le.alloc _ _), ?_⟩))
          refine Txt.tl_nil ?_
          go_wp2
          go_roundw
          case rel =>
            refine ⟨k + 1, at', _, by omega, rfl, Hr3.out.keep Hk6.out (fun h => h), Hx3.out.keep Hk6.out (fun h => h), Hkw3.out.still Hk6.out, Hl1.out⟩
          case measure => simp [intOf]; omega
        · have hb1 : (bad' != 0) = true := by simpa using hb
          have hle : (lv != 0) = false := by have h1 := Hlv.out; rw [if_neg hb] at h1; simp [← h1]
          go_wp2
          refine Txt.wp_region_text (fun w' => w'.cell? ⟨w1.heap.size, 1, none⟩ = some (.int .i64 (bad'))) [0, 0, 0, 0, 4, 0, 0, 0, 0, 0, 4, 0, 0, 0, 2, 0, 0, 0, 0, 4, 0, 4, 0, 0] (by kernel_rfl) (by kernel_rfl) x1 ?_
          repeat (first
            | (refine Txt.tl_pure (v := ?_) (by rfl) ?_ ?_; rotate_left; (focus (intro _; go_simp; try with_reducible rfl)); simp only [Act.put, List.setIfInBounds_toArray, List.set_cons_zero, List.set_cons_succ])
            | (refine Txt.tl_skip (by rfl) trivial ?_; simp only [Act.put, List.setIfInBounds_toArray, List.set_cons_zero, List.set_cons_succ])
            | (refine Txt.tl_load (v := ?_) (by rfl) (by rfl) (by rfl) (by kernel_rfl) ?_ ?_; rotate_left; (focus (first | assumption | (go_simp; done) | (go_simp; with_reducible rfl))); simp only [Act.put, List.setIfInBounds_toArray, List.set_cons_zero, List.set_cons_succ])
            | (refine Txt.tl_alloc (by rfl) ?_; go_simp; refine ⟨by (first | exact Txt.Le.alloc_drew _ _ | exact Txt.Le.alloc _ _), ?_⟩))
          refine Txt.tl_loud (by rfl) ?_
          go_simp
          refine (left_v _ W.heap.size s at' _ lv (Hr3.out.keep (Keep.refl (fun _ => False) _).drew (fun h => h)) Hlv.out).mono ?_
          rintro e w4 ⟨rfl, k4⟩
          have Hk4 : Hid (Keep _ w3 w4) := (Keep.refl _ w3).drew.trans k4
          have y1 : w4.cell? ⟨w1.heap.size, 1, none⟩ = some (.int .i64 (bad')) := (Hk4.out.cell (lt_of_block Hx4.out.blk) (fun h => h)).trans x1
          clear k4
          dsimp only
          refine ⟨y1, ?_⟩
          repeat (first
            | (refine Txt.tl_pure (v := ?_) (by rfl) ?_ ?_; rotate_left; (focus (intro _; go_simp; try with_reducible rfl)); simp only [Act.put, List.setIfInBounds_toArray, List.set_cons_zero, List.set_cons_succ])
            | (refine Txt.tl_skip (by rfl) trivial ?_; simp only [Act.put, List.setIfInBounds_toArray, List.set_cons_zero, List.set_cons_succ])
            | (refine Txt.tl_load (v := ?_) (by rfl) (by rfl) (by rfl) (by kernel_rfl) ?_ ?_; rotate_left; (focus (first | assumption | (go_simp; done) | (go_simp; with_reducible rfl))); simp only [Act.put, List.setIfInBounds_toArray, List.set_cons_zero, List.set_cons_succ])
            | (refine Txt.tl_alloc (by rfl) ?_; go_simp; refine ⟨by (first | exact Txt.Le.alloc_drew _ _ | exact Txt.Le.alloc _ _), ?_⟩))
          refine Txt.tl_loud (by rfl) ?_
          go_simp
          refine (err_any _ W.heap.size s at' _ (Hr3.out.keep Hk4.out (fun h => h))).mono ?_
          rintro e w5 ⟨rfl, rfl⟩
          dsimp only
          refine ⟨y1, ?_⟩
          repeat (first
            | (refine Txt.tl_pure (v := ?_) (by rfl) ?_ ?_; rotate_left; (focus (intro _; go_simp; try with_reducible rfl)); simp only [Act.put, List.setIfInBounds_toArray, List.set_cons_zero, List.set_cons_succ])
            | (refine Txt.tl_skip (by rfl) trivial ?_; simp only [Act.put, List.setIfInBounds_toArray, List.set_cons_zero, List.set_cons_succ])
            | (refine Txt.tl_load (v := ?_) (by rfl) (by rfl) (by rfl) (by kernel_rfl) ?_ ?_; rotate_left; (focus (first | assumption | (go_simp; done) | (go_simp; with_reducible rfl))); simp only [Act.put, List.setIfInBounds_toArray, List.set_cons_zero, List.set_cons_succ])
            | (refine Txt.tl_alloc (by rfl) ?_; go_simp; refine ⟨by (first | exact Txt.Le.alloc_drew _ _ | exact Txt.Le.alloc _ _), ?_⟩))
          refine Txt.tl_loadS (v := .int .i64 (bad')) (by rfl) (by rfl) (by rfl) (by kernel_rfl) (fun _ h => h) ?_
          simp only [Act.put, List.setIfInBounds_toArray, List.set_cons_zero, List.set_cons_succ]
          repeat (first
            | (refine Txt.tl_pure (v := ?_) (by rfl) ?_ ?_; rotate_left; (focus (intro _; go_simp; try with_reducible rfl)); simp only [Act.put, List.setIfInBounds_toArray, List.set_cons_zero, List.set_cons_succ])
            | (refine Txt.tl_skip (by rfl) trivial ?_; simp only [Act.put, List.setIfInBounds_toArray, List.set_cons_zero, List.set_cons_succ])
            | (refine Txt.tl_load (v := ?_) (by rfl) (by rfl) (by rfl) (by kernel_rfl) ?_ ?_; rotate_left; (focus (first | assumption | (go_simp; done) | (go_simp; with_reducible rfl))); simp only [Act.put, List.setIfInBounds_toArray, List.set_cons_zero, List.set_cons_succ])
            | (refine Txt.tl_alloc (by rfl) ?_; go_simp; refine ⟨by (first | exact Txt.Le.alloc_drew _ _ | exact Txt.Le.alloc _ _), ?_⟩))
          refine Txt.tl_loud (by rfl) ?_
          go_simp
          refine (end_v _ W.heap.size s at' _ ev (Hr3.out.keep Hk4.out (fun h => h)) Hev.out).mono ?_
          rintro e w6 ⟨rfl, k6⟩
          have Hk6 : Hid (Keep _ w3 w6) := Hk4.out.trans k6
          have z1 : w6.cell? ⟨w1.heap.size, 1, none⟩ = some (.int .i64 (bad')) := (Hk6.out.cell (lt_of_block Hx4.out.blk) (fun h => h)).trans x1
          clear k6
          dsimp only
          refine ⟨z1, ?_⟩
          repeat (first
            | (refine Txt.tl_pure (v := ?_) (by rfl) ?_ ?_; rotate_left; (focus (intro _; go_simp; try with_reducible rfl)); simp only [Act.put, List.setIfInBounds_toArray, List.set_cons_zero, List.set_cons_succ])
            | (refine Txt.tl_skip (by rfl) trivial ?_; simp only [Act.put, List.setIfInBounds_toArray, List.set_cons_zero, List.set_cons_succ])
            | (refine Txt.tl_load (v := ?_) (by rfl) (by rfl) (by rfl) (by kernel_rfl) ?_ ?_; rotate_left; (focus (first | assumption | (go_simp; done) | (go_simp; with_reducible rfl))); simp only [Act.put, List.setIfInBounds_toArray, List.set_cons_zero, List.set_cons_succ])
            | (refine Txt.tl_alloc (by rfl) ?_; go_simp; refine ⟨by (first | exact Txt.Le.alloc_drew _ _ | exact Txt.Le.alloc _ _), ?_⟩))
          refine Txt.tl_loud (by rfl) ?_
          go_simp
          refine (xend_v _ w1.heap.size rm _ ev (Hx4.out.keep Hk6.out (fun h => h)) Hxe.out).mono ?_
          rintro e w7 ⟨rfl, rfl⟩
          dsimp only
          refine ⟨z1, ?_⟩
          repeat (first
            | (refine Txt.tl_pure (v := ?_) (by rfl) ?_ ?_; rotate_left; (focus (intro _; go_simp; try with_reducible rfl)); simp only [Act.put, List.setIfInBounds_toArray, List.set_cons_zero, List.set_cons_succ])
            | (refine Txt.tl_skip (by rfl) trivial ?_; simp only [Act.put, List.setIfInBounds_toArray, List.set_cons_zero, List.set_cons_succ])
            | (refine Txt.tl_load (v := ?_) (by rfl) (by rfl) (by rfl) (by kernel_rfl) ?_ ?_; rotate_left; (focus (first | assumption | (go_simp; done) | (go_simp; with_reducible rfl))); simp only [Act.put, List.setIfInBounds_toArray, List.set_cons_zero, List.set_cons_succ])
            | (refine Txt.tl_alloc (by rfl) ?_; go_simp; refine ⟨by (first | exact Txt.Le.alloc_drew _ _ | exact Txt.Le.alloc _ _), ?_⟩))
          refine Txt.tl_nil ?_
          go_wp2
          go_roundw
          case rel =>
            refine ⟨k + 1, at', _, by omega, rfl, Hr3.out.keep Hk6.out (fun h => h), Hx3.out.keep Hk6.out (fun h => h), Hkw3.out.still Hk6.out, Hl1.out⟩
          case measure => simp [intOf]; omega
      by_cases hK1 : K = 1
      · subst hK1
        obtain ⟨⟨n', at', bad'⟩, hn⟩ : ∃ z, rtext s at_ bad N = z := ⟨_, rfl⟩
        have hn2 := text_law s at_ bad N hle
        rw [hn] at hn2
        have Hn : Hid _ := hn
        have Hn2 : Hid (xtext (s.extract at_ s.size) bad N = (n', s.extract at' s.size, bad')) := hn2
        clear hn hn2
        go_wp2
        refine Txt.wp_region_text (fun w' => w'.cell? ⟨b0, off + k * 4 + 1, none⟩ = some (.int .i64 N)) [0, 0, 0, 0, 0, 1, 4, 0, 0, 0, 0, 0, 2, 4, 0, 0] (by kernel_rfl) (by kernel_rfl) g1 ?_
        repeat (first
          | (refine Txt.tl_pure (v := ?_) (by rfl) ?_ ?_; rotate_left; (focus (intro _; go_simp; try with_reducible rfl)); simp only [Act.put, List.setIfInBounds_toArray, List.set_cons_zero, List.set_cons_succ])
          | (refine Txt.tl_skip (by rfl) trivial ?_; simp only [Act.put, List.setIfInBounds_toArray, List.set_cons_zero, List.set_cons_succ])
          | (refine Txt.tl_load (v := ?_) (by rfl) (by rfl) (by rfl) (by kernel_rfl) ?_ ?_; rotate_left; (focus (first | assumption | (go_simp; done) | (go_simp; with_reducible rfl))); simp only [Act.put, List.setIfInBounds_toArray, List.set_cons_zero, List.set_cons_succ])
          | (refine Txt.tl_alloc (by rfl) ?_; go_simp; refine ⟨by (first | exact Txt.Le.alloc_drew _ _ | exact Txt.Le.alloc _ _), ?_⟩))
        refine Txt.tl_loud (by rfl) ?_
        go_simp
        refine (rtext_any _ W.heap.size s at_ bad N (HR.out.keep (Keep.refl (fun _ => False) _).drew (fun h => h))).mono ?_
        rw [Hn.out]
        rintro e w2 ⟨rfl, h2, k2⟩
        have Hw2 : Hid _ := h2
        have Hk2 : Hid (Keep _ wr w2) := (Keep.refl _ wr).drew.trans k2
        have Hx2 : Hid (IsX w2 w1.heap.size (s.extract at_ s.size) bad) := HX.out.keep Hk2.out (fun h => by have := Hl1.out; omega)
        have Hkw2 : Hid _ := hKw.out.atb Hk2.out (Nat.le_refl _)
        clear h2 k2
        obtain ⟨q0, q1, q2, q3⟩ := cells4 Hr.out Hkw2.out hb0
        simp only at q0 q1 q2 q3
        dsimp only
        refine ⟨q1, ?_⟩
        repeat (first
          | (refine Txt.tl_pure (v := ?_) (by rfl) ?_ ?_; rotate_left; (focus (intro _; go_simp; try with_reducible rfl)); simp only [Act.put, List.setIfInBounds_toArray, List.set_cons_zero, List.set_cons_succ])
          | (refine Txt.tl_skip (by rfl) trivial ?_; simp only [Act.put, List.setIfInBounds_toArray, List.set_cons_zero, List.set_cons_succ])
          | (refine Txt.tl_load (v := ?_) (by rfl) (by rfl) (by rfl) (by kernel_rfl) ?_ ?_; rotate_left; (focus (first | assumption | (go_simp; done) | (go_simp; with_reducible rfl))); simp only [Act.put, List.setIfInBounds_toArray, List.set_cons_zero, List.set_cons_succ])
          | (refine Txt.tl_alloc (by rfl) ?_; go_simp; refine ⟨by (first | exact Txt.Le.alloc_drew _ _ | exact Txt.Le.alloc _ _), ?_⟩))
        refine Txt.tl_loadS (v := .int .i64 N) (by rfl) (by rfl) (by rfl) (by kernel_rfl) (fun _ h => h) ?_
        simp only [Act.put, List.setIfInBounds_toArray, List.set_cons_zero, List.set_cons_succ]
        refine Txt.tl_loud (by rfl) ?_
        go_simp
        refine (xtext_any _ w1.heap.size (s.extract at_ s.size) bad N Hx2.out).mono ?_
        rw [Hn2.out]
        rintro e w3 ⟨rfl, h3, k3⟩
        have Hx3 : Hid _ := h3
        have Hr3 : Hid (IsR w3 W.heap.size s at' bad') := Hw2.out.keep k3 (fun h => by have := Hl1.out; omega)
        have Hkw3 : Hid (Keep _ W w3) := Hkw2.out.atb k3 (Nat.le_of_lt Hl1.out)
        clear h3 k3
        obtain ⟨p0, p1, p2, p3⟩ := cells4 Hr.out Hkw3.out hb0
        simp only at p0 p1 p2 p3
        dsimp only
        refine ⟨p1, ?_⟩
        repeat (first
          | (refine Txt.tl_pure (v := ?_) (by rfl) ?_ ?_; rotate_left; (focus (intro _; go_simp; try with_reducible rfl)); simp only [Act.put, List.setIfInBounds_toArray, List.set_cons_zero, List.set_cons_succ])
          | (refine Txt.tl_skip (by rfl) trivial ?_; simp only [Act.put, List.setIfInBounds_toArray, List.set_cons_zero, List.set_cons_succ])
          | (refine Txt.tl_load (v := ?_) (by rfl) (by rfl) (by rfl) (by kernel_rfl) ?_ ?_; rotate_left; (focus (first | assumption | (go_simp; done) | (go_simp; with_reducible rfl))); simp only [Act.put, List.setIfInBounds_toArray, List.set_cons_zero, List.set_cons_succ])
          | (refine Txt.tl_alloc (by rfl) ?_; go_simp; refine ⟨by (first | exact Txt.Le.alloc_drew _ _ | exact Txt.Le.alloc _ _), ?_⟩))
        refine Txt.tl_nil ?_
        obtain ⟨rm, hrm⟩ : ∃ rm, s.extract at' s.size = rm := ⟨_, rfl⟩
        obtain ⟨lv, hlv⟩ : ∃ lv, (if bad' = 0 then (s.size : Int) - at' else 0) = lv := ⟨_, rfl⟩
        obtain ⟨ev, hev⟩ : ∃ ev, (if bad' = 0 then (if at' = s.size then (0 : Int) else 4) else bad') = ev := ⟨_, rfl⟩
        have hrs : (rm.size : Int) = (s.size : Int) - at' := by have h1 := Hr3.out.le; rw [← hrm, ByteArray.size_extract]; omega
        have hxe : xendv rm bad' = ev := by have h1 := Hr3.out.le; rw [← hev]; unfold xendv; by_cases h0 : bad' = 0 <;> simp only [h0, if_true, if_false]; by_cases h2 : at' = s.size; (rw [if_pos (by omega), if_pos h2]); (rw [if_neg (by omega), if_neg h2])
        have Hx4 : Hid (IsX w3 w1.heap.size rm bad') := by rw [← hrm]; exact Hx3.out
        have x0 : w3.cell? ⟨w1.heap.size, 0, none⟩ = some (.string rm) := by rw [cell_of Hx4.out.blk]; rfl
        have x1 : w3.cell? ⟨w1.heap.size, 1, none⟩ = some (.int .i64 bad') := by rw [cell_of Hx4.out.blk]; rfl
        have Hlv : Hid _ := hlv
        have Hev : Hid _ := hev
        have Hxe : Hid _ := hxe
        have Hrs : Hid _ := hrs
        clear hrm hlv hev hrs hxe
        by_cases hb : bad' = 0
        · subst hb
          have hle : (lv != (rm.size : Int)) = false := by have h1 := Hlv.out; have h2 := Hrs.out; simp only [if_true] at h1; simp; omega
          go_wp2
          refine Txt.wp_region_text (fun w' => w'.cell? ⟨w1.heap.size, 1, none⟩ = some (.int .i64 (0))) [0, 0, 0, 0, 4, 0, 0, 0, 0, 0, 4, 0, 0, 0, 2, 0, 0, 0, 0, 4, 0, 4, 0, 0] (by kernel_rfl) (by kernel_rfl) x1 ?_
          repeat (first
            | (refine Txt.tl_pure (v := ?_) (by rfl) ?_ ?_; rotate_left; (focus (intro _; go_simp; try with_reducible rfl)); simp only [Act.put, List.setIfInBounds_toArray, List.set_cons_zero, List.set_cons_succ])
            | (refine Txt.tl_skip (by rfl) trivial ?_; simp only [Act.put, List.setIfInBounds_toArray, List.set_cons_zero, List.set_cons_succ])
            | (refine Txt.tl_load (v := ?_) (by rfl) (by rfl) (by rfl) (by kernel_rfl) ?_ ?_; rotate_left; (focus (first | assumption | (go_simp; done) | (go_simp; with_reducible rfl))); simp only [Act.put, List.setIfInBounds_toArray, List.set_cons_zero, List.set_cons_succ])
            | (refine Txt.tl_alloc (by rfl) ?_; go_simp; refine ⟨by (first | exact Txt.Le.alloc_drew _ _ | exact Txt.Le.alloc _ _), ?_⟩))
          refine Txt.tl_loud (by rfl) ?_
          go_simp
          refine (left_v _ W.heap.size s at' _ lv (Hr3.out.keep (Keep.refl (fun _ => False) _).drew (fun h => h)) Hlv.out).mono ?_
          rintro e w4 ⟨rfl, k4⟩
          have Hk4 : Hid (Keep _ w3 w4) := (Keep.refl _ w3).drew.trans k4
          have y1 : w4.cell? ⟨w1.heap.size, 1, none⟩ = some (.int .i64 (0)) := (Hk4.out.cell (lt_of_block Hx4.out.blk) (fun h => h)).trans x1
          clear k4
          dsimp only
          refine ⟨y1, ?_⟩
          repeat (first
            | (refine Txt.tl_pure (v := ?_) (by rfl) ?_ ?_; rotate_left; (focus (intro _; go_simp; try with_reducible rfl)); simp only [Act.put, List.setIfInBounds_toArray, List.set_cons_zero, List.set_cons_succ])
            | (refine Txt.tl_skip (by rfl) trivial ?_; simp only [Act.put, List.setIfInBounds_toArray, List.set_cons_zero, List.set_cons_succ])
            | (refine Txt.tl_load (v := ?_) (by rfl) (by rfl) (by rfl) (by kernel_rfl) ?_ ?_; rotate_left; (focus (first | assumption | (go_simp; done) | (go_simp; with_reducible rfl))); simp only [Act.put, List.setIfInBounds_toArray, List.set_cons_zero, List.set_cons_succ])
            | (refine Txt.tl_alloc (by rfl) ?_; go_simp; refine ⟨by (first | exact Txt.Le.alloc_drew _ _ | exact Txt.Le.alloc _ _), ?_⟩))
          refine Txt.tl_loud (by rfl) ?_
          go_simp
          refine (err_any _ W.heap.size s at' _ (Hr3.out.keep Hk4.out (fun h => h))).mono ?_
          rintro e w5 ⟨rfl, rfl⟩
          dsimp only
          refine ⟨y1, ?_⟩
          repeat (first
            | (refine Txt.tl_pure (v := ?_) (by rfl) ?_ ?_; rotate_left; (focus (intro _; go_simp; try with_reducible rfl)); simp only [Act.put, List.setIfInBounds_toArray, List.set_cons_zero, List.set_cons_succ])
            | (refine Txt.tl_skip (by rfl) trivial ?_; simp only [Act.put, List.setIfInBounds_toArray, List.set_cons_zero, List.set_cons_succ])
            | (refine Txt.tl_load (v := ?_) (by rfl) (by rfl) (by rfl) (by kernel_rfl) ?_ ?_; rotate_left; (focus (first | assumption | (go_simp; done) | (go_simp; with_reducible rfl))); simp only [Act.put, List.setIfInBounds_toArray, List.set_cons_zero, List.set_cons_succ])
            | (refine Txt.tl_alloc (by rfl) ?_; go_simp; refine ⟨by (first | exact Txt.Le.alloc_drew _ _ | exact Txt.Le.alloc _ _), ?_⟩))
          refine Txt.tl_loadS (v := .int .i64 (0)) (by rfl) (by rfl) (by rfl) (by kernel_rfl) (fun _ h => h) ?_
          simp only [Act.put, List.setIfInBounds_toArray, List.set_cons_zero, List.set_cons_succ]
          repeat (first
            | (refine Txt.tl_pure (v := ?_) (by rfl) ?_ ?_; rotate_left; (focus (intro _; go_simp; try with_reducible rfl)); simp only [Act.put, List.setIfInBounds_toArray, List.set_cons_zero, List.set_cons_succ])
            | (refine Txt.tl_skip (by rfl) trivial ?_; simp only [Act.put, List.setIfInBounds_toArray, List.set_cons_zero, List.set_cons_succ])
            | (refine Txt.tl_load (v := ?_) (by rfl) (by rfl) (by rfl) (by kernel_rfl) ?_ ?_; rotate_left; (focus (first | assumption | (go_simp; done) | (go_simp; with_reducible rfl))); simp only [Act.put, List.setIfInBounds_toArray, List.set_cons_zero, List.set_cons_succ])
            | (refine Txt.tl_alloc (by rfl) ?_; go_simp; refine ⟨by (first | exact Txt.Le.alloc_drew _ _ | exact Txt.Le.alloc _ _), ?_⟩))
          refine Txt.tl_loud (by rfl) ?_
          go_simp
          refine (end_v _ W.heap.size s at' _ ev (Hr3.out.keep Hk4.out (fun h => h)) Hev.out).mono ?_
          rintro e w6 ⟨rfl, k6⟩
          have Hk6 : Hid (Keep _ w3 w6) := Hk4.out.trans k6
          have z1 : w6.cell? ⟨w1.heap.size, 1, none⟩ = some (.int .i64 (0)) := (Hk6.out.cell (lt_of_block Hx4.out.blk) (fun h => h)).trans x1
          clear k6
          dsimp only
          refine ⟨z1, ?_⟩
          repeat (first
            | (refine Txt.tl_pure (v := ?_) (by rfl) ?_ ?_; rotate_left; (focus (intro _; go_simp; try with_reducible rfl)); simp only [Act.put, List.setIfInBounds_toArray, List.set_cons_zero, List.set_cons_succ])
            | (refine Txt.tl_skip (by rfl) trivial ?_; simp only [Act.put, List.setIfInBounds_toArray, List.set_cons_zero, List.set_cons_succ])
            | (refine Txt.tl_load (v := ?_) (by rfl) (by rfl) (by rfl) (by kernel_rfl) ?_ ?_; rotate_left; (focus (first | assumption | (go_simp; done) | (go_simp; with_reducible rfl))); simp only [Act.put, List.setIfInBounds_toArray, List.set_cons_zero, List.set_cons_succ])
            | (refine Txt.tl_alloc (by rfl) ?_; go_simp; refine ⟨by (first | exact Txt.Le.alloc_drew _ _ | exact Txt.Le.alloc _ _), ?_⟩))
          refine Txt.tl_loud (by rfl) ?_
          go_simp
          refine (xend_v _ w1.heap.size rm _ ev (Hx4.out.keep Hk6.out (fun h => h)) Hxe.out).mono ?_
          rintro e w7 ⟨rfl, rfl⟩
          dsimp only
          refine ⟨z1, ?_⟩
          repeat (first
            | (refine Txt.tl_pure (v := ?_) (by rfl) ?_ ?_; rotate_left; (focus (intro _; go_simp; try with_reducible rfl)); simp only [Act.put, List.setIfInBounds_toArray, List.set_cons_zero, List.set_cons_succ])
            | (refine Txt.tl_skip (by rfl) trivial ?_; simp only [Act.put, List.setIfInBounds_toArray, List.set_cons_zero, List.set_cons_succ])
            | (refine Txt.tl_load (v := ?_) (by rfl) (by rfl) (by rfl) (by kernel_rfl) ?_ ?_; rotate_left; (focus (first | assumption | (go_simp; done) | (go_simp; with_reducible rfl))); simp only [Act.put, List.setIfInBounds_toArray, List.set_cons_zero, List.set_cons_succ])
            | (refine Txt.tl_alloc (by rfl) ?_; go_simp; refine ⟨by (first | exact Txt.Le.alloc_drew _ _ | exact Txt.Le.alloc _ _), ?_⟩))
          refine Txt.tl_nil ?_
          go_wp2
          go_roundw
          case rel =>
            refine ⟨k + 1, at', _, by omega, rfl, Hr3.out.keep Hk6.out (fun h => h), Hx3.out.keep Hk6.out (fun h => h), Hkw3.out.still Hk6.out, Hl1.out⟩
          case measure => simp [intOf]; omega
        · have hb1 : (bad' != 0) = true := by simpa using hb
          have hle : (lv != 0) = false := by have h1 := Hlv.out; rw [if_neg hb] at h1; simp [← h1]
          go_wp2
          refine Txt.wp_region_text (fun w' => w'.cell? ⟨w1.heap.size, 1, none⟩ = some (.int .i64 (bad'))) [0, 0, 0, 0, 4, 0, 0, 0, 0, 0, 4, 0, 0, 0, 2, 0, 0, 0, 0, 4, 0, 4, 0, 0] (by kernel_rfl) (by kernel_rfl) x1 ?_
          repeat (first
            | (refine Txt.tl_pure (v := ?_) (by rfl) ?_ ?_; rotate_left; (focus (intro _; go_simp; try with_reducible rfl)); simp only [Act.put, List.setIfInBounds_toArray, List.set_cons_zero, List.set_cons_succ])
            | (refine Txt.tl_skip (by rfl) trivial ?_; simp only [Act.put, List.setIfInBounds_toArray, List.set_cons_zero, List.set_cons_succ])
            | (refine Txt.tl_load (v := ?_) (by rfl) (by rfl) (by rfl) (by kernel_rfl) ?_ ?_; rotate_left; (focus (first | assumption | (go_simp; done) | (go_simp; with_reducible rfl))); simp only [Act.put, List.setIfInBounds_toArray, List.set_cons_zero, List.set_cons_succ])
            | (refine Txt.tl_alloc (by rfl) ?_; go_simp; refine ⟨by (first | exact Txt.Le.alloc_drew _ _ | exact Txt.Le.alloc _ _), ?_⟩))
          refine Txt.tl_loud (by rfl) ?_
          go_simp
          refine (left_v _ W.heap.size s at' _ lv (Hr3.out.keep (Keep.refl (fun _ => False) _).drew (fun h => h)) Hlv.out).mono ?_
          rintro e w4 ⟨rfl, k4⟩
          have Hk4 : Hid (Keep _ w3 w4) := (Keep.refl _ w3).drew.trans k4
          have y1 : w4.cell? ⟨w1.heap.size, 1, none⟩ = some (.int .i64 (bad')) := (Hk4.out.cell (lt_of_block Hx4.out.blk) (fun h => h)).trans x1
          clear k4
          dsimp only
          refine ⟨y1, ?_⟩
          repeat (first
            | (refine Txt.tl_pure (v := ?_) (by rfl) ?_ ?_; rotate_left; (focus (intro _; go_simp; try with_reducible rfl)); simp only [Act.put, List.setIfInBounds_toArray, List.set_cons_zero, List.set_cons_succ])
            | (refine Txt.tl_skip (by rfl) trivial ?_; simp only [Act.put, List.setIfInBounds_toArray, List.set_cons_zero, List.set_cons_succ])
            | (refine Txt.tl_load (v := ?_) (by rfl) (by rfl) (by rfl) (by kernel_rfl) ?_ ?_; rotate_left; (focus (first | assumption | (go_simp; done) | (go_simp; with_reducible rfl))); simp only [Act.put, List.setIfInBounds_toArray, List.set_cons_zero, List.set_cons_succ])
            | (refine Txt.tl_alloc (by rfl) ?_; go_simp; refine ⟨by (first | exact Txt.Le.alloc_drew _ _ | exact Txt.Le.alloc _ _), ?_⟩))
          refine Txt.tl_loud (by rfl) ?_
          go_simp
          refine (err_any _ W.heap.size s at' _ (Hr3.out.keep Hk4.out (fun h => h))).mono ?_
          rintro e w5 ⟨rfl, rfl⟩
          dsimp only
          refine ⟨y1, ?_⟩
          repeat (first
            | (refine Txt.tl_pure (v := ?_) (by rfl) ?_ ?_; rotate_left; (focus (intro _; go_simp; try with_reducible rfl)); simp only [Act.put, List.setIfInBounds_toArray, List.set_cons_zero, List.set_cons_succ])
            | (refine Txt.tl_skip (by rfl) trivial ?_; simp only [Act.put, List.setIfInBounds_toArray, List.set_cons_zero, List.set_cons_succ])
            | (refine Txt.tl_load (v := ?_) (by rfl) (by rfl) (by rfl) (by kernel_rfl) ?_ ?_; rotate_left; (focus (first | assumption | (go_simp; done) | (go_simp; with_reducible rfl))); simp only [Act.put, List.setIfInBounds_toArray, List.set_cons_zero, List.set_cons_succ])
            | (refine Txt.tl_alloc (by rfl) ?_; go_simp; refine ⟨by (first | exact Txt.Le.alloc_drew _ _ | exact Txt.Le.alloc _ _), ?_⟩))
          refine Txt.tl_loadS (v := .int .i64 (bad')) (by rfl) (by rfl) (by rfl) (by kernel_rfl) (fun _ h => h) ?_
          simp only [Act.put, List.setIfInBounds_toArray, List.set_cons_zero, List.set_cons_succ]
          repeat (first
            | (refine Txt.tl_pure (v := ?_) (by rfl) ?_ ?_; rotate_left; (focus (intro _; go_simp; try with_reducible rfl)); simp only [Act.put, List.setIfInBounds_toArray, List.set_cons_zero, List.set_cons_succ])
            | (refine Txt.tl_skip (by rfl) trivial ?_; simp only [Act.put, List.setIfInBounds_toArray, List.set_cons_zero, List.set_cons_succ])
            | (refine Txt.tl_load (v := ?_) (by rfl) (by rfl) (by rfl) (by kernel_rfl) ?_ ?_; rotate_left; (focus (first | assumption | (go_simp; done) | (go_simp; with_reducible rfl))); simp only [Act.put, List.setIfInBounds_toArray, List.set_cons_zero, List.set_cons_succ])
            | (refine Txt.tl_alloc (by rfl) ?_; go_simp; refine ⟨by (first | exact Txt.Le.alloc_drew _ _ | exact Txt.Le.alloc _ _), ?_⟩))
          refine Txt.tl_loud (by rfl) ?_
          go_simp
          refine (end_v _ W.heap.size s at' _ ev (Hr3.out.keep Hk4.out (fun h => h)) Hev.out).mono ?_
          rintro e w6 ⟨rfl, k6⟩
          have Hk6 : Hid (Keep _ w3 w6) := Hk4.out.trans k6
          have z1 : w6.cell? ⟨w1.heap.size, 1, none⟩ = some (.int .i64 (bad')) := (Hk6.out.cell (lt_of_block Hx4.out.blk) (fun h => h)).trans x1
          clear k6
          dsimp only
          refine ⟨z1, ?_⟩
          repeat (first
            | (refine Txt.tl_pure (v := ?_) (by rfl) ?_ ?_; rotate_left; (focus (intro _; go_simp; try with_reducible rfl)); simp only [Act.put, List.setIfInBounds_toArray, List.set_cons_zero, List.set_cons_succ])
            | (refine Txt.tl_skip (by rfl) trivial ?_; simp only [Act.put, List.setIfInBounds_toArray, List.set_cons_zero, List.set_cons_succ])
            | (refine Txt.tl_load (v := ?_) (by rfl) (by rfl) (by rfl) (by kernel_rfl) ?_ ?_; rotate_left; (focus (first | assumption | (go_simp; done) | (go_simp; with_reducible rfl))); simp only [Act.put, List.setIfInBounds_toArray, List.set_cons_zero, List.set_cons_succ])
            | (refine Txt.tl_alloc (by rfl) ?_; go_simp; refine ⟨by (first | exact Txt.Le.alloc_drew _ _ | exact Txt.Le.alloc _ _), ?_⟩))
          refine Txt.tl_loud (by rfl) ?_
          go_simp
          refine (xend_v _ w1.heap.size rm _ ev (Hx4.out.keep Hk6.out (fun h => h)) Hxe.out).mono ?_
          rintro e w7 ⟨rfl, rfl⟩
          dsimp only
          refine ⟨z1, ?_⟩
          repeat (first
            | (refine Txt.tl_pure (v := ?_) (by rfl) ?_ ?_; rotate_left; (focus (intro _; go_simp; try with_reducible rfl)); simp only [Act.put, List.setIfInBounds_toArray, List.set_cons_zero, List.set_cons_succ])
            | (refine Txt.tl_skip (by rfl) trivial ?_; simp only [Act.put, List.setIfInBounds_toArray, List.set_cons_zero, List.set_cons_succ])
            | (refine Txt.tl_load (v := ?_) (by rfl) (by rfl) (by rfl) (by kernel_rfl) ?_ ?_; rotate_left; (focus (first | assumption | (go_simp; done) | (go_simp; with_reducible rfl))); simp only [Act.put, List.setIfInBounds_toArray, List.set_cons_zero, List.set_cons_succ])
            | (refine Txt.tl_alloc (by rfl) ?_; go_simp; refine ⟨by (first | exact Txt.Le.alloc_drew _ _ | exact Txt.Le.alloc _ _), ?_⟩))
          refine Txt.tl_nil ?_
          go_wp2
          go_roundw
          case rel =>
            refine ⟨k + 1, at', _, by omega, rfl, Hr3.out.keep Hk6.out (fun h => h), Hx3.out.keep Hk6.out (fun h => h), Hkw3.out.still Hk6.out, Hl1.out⟩
          case measure => simp [intOf]; omega
      · have hK0 : (K == 0) = false := by simpa using hK
        have hK2 : (K == 1) = false := by simpa using hK1
        obtain ⟨⟨n', at', bad'⟩, hn⟩ : ∃ z, rraw s at_ bad N = z := ⟨_, rfl⟩
        have hn2 := raw_law s at_ bad N hle
        rw [hn] at hn2
        have Hn : Hid _ := hn
        have Hn2 : Hid (xraw (s.extract at_ s.size) bad N = (n', s.extract at' s.size, bad')) := hn2
        clear hn hn2
        go_wp2
        refine Txt.wp_region_text (fun w' => w'.cell? ⟨b0, off + k * 4 + 1, none⟩ = some (.int .i64 N)) [0, 0, 0, 0, 0, 1, 4, 0, 0, 0, 0, 0, 2, 4, 0, 0] (by kernel_rfl) (by kernel_rfl) g1 ?_
        repeat (first
          | (refine Txt.tl_pure (v := ?_) (by rfl) ?_ ?_; rotate_left; (focus (intro _; go_simp; try with_reducible rfl)); simp only [Act.put, List.setIfInBounds_toArray, List.set_cons_zero, List.set_cons_succ])
          | (refine Txt.tl_skip (by rfl) trivial ?_; simp only [Act.put, List.setIfInBounds_toArray, List.set_cons_zero, List.set_cons_succ])
          | (refine Txt.tl_load (v := ?_) (by rfl) (by rfl) (by rfl) (by kernel_rfl) ?_ ?_; rotate_left; (focus (first | assumption | (go_simp; done) | (go_simp; with_reducible rfl))); simp only [Act.put, List.setIfInBounds_toArray, List.set_cons_zero, List.set_cons_succ])
          | (refine Txt.tl_alloc (by rfl) ?_; go_simp; refine ⟨by (first | exact Txt.Le.alloc_drew _ _ | exact Txt.Le.alloc _ _), ?_⟩))
        refine Txt.tl_loud (by rfl) ?_
        go_simp
        refine (rraw_any _ W.heap.size s at_ bad N (HR.out.keep (Keep.refl (fun _ => False) _).drew (fun h => h))).mono ?_
        rw [Hn.out]
        rintro e w2 ⟨rfl, h2, k2⟩
        have Hw2 : Hid _ := h2
        have Hk2 : Hid (Keep _ wr w2) := (Keep.refl _ wr).drew.trans k2
        have Hx2 : Hid (IsX w2 w1.heap.size (s.extract at_ s.size) bad) := HX.out.keep Hk2.out (fun h => by have := Hl1.out; omega)
        have Hkw2 : Hid _ := hKw.out.atb Hk2.out (Nat.le_refl _)
        clear h2 k2
        obtain ⟨q0, q1, q2, q3⟩ := cells4 Hr.out Hkw2.out hb0
        simp only at q0 q1 q2 q3
        dsimp only
        refine ⟨q1, ?_⟩
        repeat (first
          | (refine Txt.tl_pure (v := ?_) (by rfl) ?_ ?_; rotate_left; (focus (intro _; go_simp; try with_reducible rfl)); simp only [Act.put, List.setIfInBounds_toArray, List.set_cons_zero, List.set_cons_succ])
          | (refine Txt.tl_skip (by rfl) trivial ?_; simp only [Act.put, List.setIfInBounds_toArray, List.set_cons_zero, List.set_cons_succ])
          | (refine Txt.tl_load (v := ?_) (by rfl) (by rfl) (by rfl) (by kernel_rfl) ?_ ?_; rotate_left; (focus (first | assumption | (go_simp; done) | (go_simp; with_reducible rfl))); simp only [Act.put, List.setIfInBounds_toArray, List.set_cons_zero, List.set_cons_succ])
          | (refine Txt.tl_alloc (by rfl) ?_; go_simp; refine ⟨by (first | exact Txt.Le.alloc_drew _ _ | exact Txt.Le.alloc _ _), ?_⟩))
        refine Txt.tl_loadS (v := .int .i64 N) (by rfl) (by rfl) (by rfl) (by kernel_rfl) (fun _ h => h) ?_
        simp only [Act.put, List.setIfInBounds_toArray, List.set_cons_zero, List.set_cons_succ]
        refine Txt.tl_loud (by rfl) ?_
        go_simp
        refine (xraw_any _ w1.heap.size (s.extract at_ s.size) bad N Hx2.out).mono ?_
        rw [Hn2.out]
        rintro e w3 ⟨rfl, h3, k3⟩
        have Hx3 : Hid _ := h3
        have Hr3 : Hid (IsR w3 W.heap.size s at' bad') := Hw2.out.keep k3 (fun h => by have := Hl1.out; omega)
        have Hkw3 : Hid (Keep _ W w3) := Hkw2.out.atb k3 (Nat.le_of_lt Hl1.out)
        clear h3 k3
        obtain ⟨p0, p1, p2, p3⟩ := cells4 Hr.out Hkw3.out hb0
        simp only at p0 p1 p2 p3
        dsimp only
        refine ⟨p1, ?_⟩
        repeat (first
          | (refine Txt.tl_pure (v := ?_) (by rfl) ?_ ?_; rotate_left; (focus (intro _; go_simp; try with_reducible rfl)); simp only [Act.put, List.setIfInBounds_toArray, List.set_cons_zero, List.set_cons_succ])
          | (refine Txt.tl_skip (by rfl) trivial ?_; simp only [Act.put, List.setIfInBounds_toArray, List.set_cons_zero, List.set_cons_succ])
          | (refine Txt.tl_load (v := ?_) (by rfl) (by rfl) (by rfl) (by kernel_rfl) ?_ ?_; rotate_left; (focus (first | assumption | (go_simp; done) | (go_simp; with_reducible rfl))); simp only [Act.put, List.setIfInBounds_toArray, List.set_cons_zero, List.set_cons_succ])
          | (refine Txt.tl_alloc (by rfl) ?_; go_simp; refine ⟨by (first | exact Txt.Le.alloc_drew _ _ | exact Txt.Le.alloc _ _), ?_⟩))
        refine Txt.tl_nil ?_
        obtain ⟨rm, hrm⟩ : ∃ rm, s.extract at' s.size = rm := ⟨_, rfl⟩
        obtain ⟨lv, hlv⟩ : ∃ lv, (if bad' = 0 then (s.size : Int) - at' else 0) = lv := ⟨_, rfl⟩
        obtain ⟨ev, hev⟩ : ∃ ev, (if bad' = 0 then (if at' = s.size then (0 : Int) else 4) else bad') = ev := ⟨_, rfl⟩
        have hrs : (rm.size : Int) = (s.size : Int) - at' := by have h1 := Hr3.out.le; rw [← hrm, ByteArray.size_extract]; omega
        have hxe : xendv rm bad' = ev := by have h1 := Hr3.out.le; rw [← hev]; unfold xendv; by_cases h0 : bad' = 0 <;> simp only [h0, if_true, if_false]; by_cases h2 : at' = s.size; (rw [if_pos (by omega), if_pos h2]); (rw [if_neg (by omega), if_neg h2])
        have Hx4 : Hid (IsX w3 w1.heap.size rm bad') := by rw [← hrm]; exact Hx3.out
        have x0 : w3.cell? ⟨w1.heap.size, 0, none⟩ = some (.string rm) := by rw [cell_of Hx4.out.blk]; rfl
        have x1 : w3.cell? ⟨w1.heap.size, 1, none⟩ = some (.int .i64 bad') := by rw [cell_of Hx4.out.blk]; rfl
        have Hlv : Hid _ := hlv
        have Hev : Hid _ := hev
        have Hxe : Hid _ := hxe
        have Hrs : Hid _ := hrs
        clear hrm hlv hev hrs hxe
        by_cases hb : bad' = 0
        · subst hb
          have hle : (lv != (rm.size : Int)) = false := by have h1 := Hlv.out; have h2 := Hrs.out; simp only [if_true] at h1; simp; omega
          go_wp2
          refine Txt.wp_region_text (fun w' => w'.cell? ⟨w1.heap.size, 1, none⟩ = some (.int .i64 (0))) [0, 0, 0, 0, 4, 0, 0, 0, 0, 0, 4, 0, 0, 0, 2, 0, 0, 0, 0, 4, 0, 4, 0, 0] (by kernel_rfl) (by kernel_rfl) x1 ?_
          repeat (first
            | (refine Txt.tl_pure (v := ?_) (by rfl) ?_ ?_; rotate_left; (focus (intro _; go_simp; try with_reducible rfl)); simp only [Act.put, List.setIfInBounds_toArray, List.set_cons_zero, List.set_cons_succ])
            | (refine Txt.tl_skip (by rfl) trivial ?_; simp only [Act.put, List.setIfInBounds_toArray, List.set_cons_zero, List.set_cons_succ])
            | (refine Txt.tl_load (v := ?_) (by rfl) (by rfl) (by rfl) (by kernel_rfl) ?_ ?_; rotate_left; (focus (first | assumption | (go_simp; done) | (go_simp; with_reducible rfl))); simp only [Act.put, List.setIfInBounds_toArray, List.set_cons_zero, List.set_cons_succ])
            | (refine Txt.tl_alloc (by rfl) ?_; go_simp; refine ⟨by (first | exact Txt.Le.alloc_drew _ _ | exact Txt.Le.alloc _ _), ?_⟩))
          refine Txt.tl_loud (by rfl) ?_
          go_simp
          refine (left_v _ W.heap.size s at' _ lv (Hr3.out.keep (Keep.refl (fun _ => False) _).drew (fun h => h)) Hlv.out).mono ?_
          rintro e w4 ⟨rfl, k4⟩
          have Hk4 : Hid (Keep _ w3 w4) := (Keep.refl _ w3).drew.trans k4
          have y1 : w4.cell? ⟨w1.heap.size, 1, none⟩ = some (.int .i64 (0)) := (Hk4.out.cell (lt_of_block Hx4.out.blk) (fun h => h)).trans x1
          clear k4
          dsimp only
          refine ⟨y1, ?_⟩
          repeat (first
            | (refine Txt.tl_pure (v := ?_) (by rfl) ?_ ?_; rotate_left; (focus (intro _; go_simp; try with_reducible rfl)); simp only [Act.put, List.setIfInBounds_toArray, List.set_cons_zero, List.set_cons_succ])
            | (refine Txt.tl_skip (by rfl) trivial ?_; simp only [Act.put, List.setIfInBounds_toArray, List.set_cons_zero, List.set_cons_succ])
            | (refine Txt.tl_load (v := ?_) (by rfl) (by rfl) (by rfl) (by kernel_rfl) ?_ ?_; rotate_left; (focus (first | assumption | (go_simp; done) | (go_simp; with_reducible rfl))); simp only [Act.put, List.setIfInBounds_toArray, List.set_cons_zero, List.set_cons_succ])
            | (refine Txt.tl_alloc (by rfl) ?_; go_simp; refine ⟨by (first | exact Txt.Le.alloc_drew _ _ | exact Txt.Le.alloc _ _), ?_⟩))
          refine Txt.tl_loud (by rfl) ?_
          go_simp
          refine (err_any _ W.heap.size s at' _ (Hr3.out.keep Hk4.out (fun h => h))).mono ?_
          rintro e w5 ⟨rfl, rfl⟩
          dsimp only
          refine ⟨y1, ?_⟩
          repeat (first
            | (refine Txt.tl_pure (v := ?_) (by rfl) ?_ ?_; rotate_left; (focus (intro _; go_simp; try with_reducible rfl)); simp only [Act.put, List.setIfInBounds_toArray, List.set_cons_zero, List.set_cons_succ])
            | (refine Txt.tl_skip (by rfl) trivial ?_; simp only [Act.put, List.setIfInBounds_toArray, List.set_cons_zero, List.set_cons_succ])
            | (refine Txt.tl_load (v := ?_) (by rfl) (by rfl) (by rfl) (by kernel_rfl) ?_ ?_; rotate_left; (focus (first | assumption | (go_simp; done) | (go_simp; with_reducible rfl))); simp only [Act.put, List.setIfInBounds_toArray, List.set_cons_zero, List.set_cons_succ])
            | (refine Txt.tl_alloc (by rfl) ?_; go_simp; refine ⟨by (first | exact Txt.Le.alloc_drew _ _ | exact Txt.Le.alloc _ _), ?_⟩))
          refine Txt.tl_loadS (v := .int .i64 (0)) (by rfl) (by rfl) (by rfl) (by kernel_rfl) (fun _ h => h) ?_
          simp only [Act.put, List.setIfInBounds_toArray, List.set_cons_zero, List.set_cons_succ]
          repeat (first
            | (refine Txt.tl_pure (v := ?_) (by rfl) ?_ ?_; rotate_left; (focus (intro _; go_simp; try with_reducible rfl)); simp only [Act.put, List.setIfInBounds_toArray, List.set_cons_zero, List.set_cons_succ])
            | (refine Txt.tl_skip (by rfl) trivial ?_; simp only [Act.put, List.setIfInBounds_toArray, List.set_cons_zero, List.set_cons_succ])
            | (refine Txt.tl_load (v := ?_) (by rfl) (by rfl) (by rfl) (by kernel_rfl) ?_ ?_; rotate_left; (focus (first | assumption | (go_simp; done) | (go_simp; with_reducible rfl))); simp only [Act.put, List.setIfInBounds_toArray, List.set_cons_zero, List.set_cons_succ])
            | (refine Txt.tl_alloc (by rfl) ?_; go_simp; refine ⟨by (first | exact Txt.Le.alloc_drew _ _ | exact Txt.Le.alloc _ _), ?_⟩))
          refine Txt.tl_loud (by rfl) ?_
          go_simp
          refine (end_v _ W.heap.size s at' _ ev (Hr3.out.keep Hk4.out (fun h => h)) Hev.out).mono ?_
          rintro e w6 ⟨rfl, k6⟩
          have Hk6 : Hid (Keep _ w3 w6) := Hk4.out.trans k6
          have z1 : w6.cell? ⟨w1.heap.size, 1, none⟩ = some (.int .i64 (0)) := (Hk6.out.cell (lt_of_block Hx4.out.blk) (fun h => h)).trans x1
          clear k6
          dsimp only
          refine ⟨z1, ?_⟩
          repeat (first
            | (refine Txt.tl_pure (v := ?_) (by rfl) ?_ ?_; rotate_left; (focus (intro _; go_simp; try with_reducible rfl)); simp only [Act.put, List.setIfInBounds_toArray, List.set_cons_zero, List.set_cons_succ])
            | (refine Txt.tl_skip (by rfl) trivial ?_; simp only [Act.put, List.setIfInBounds_toArray, List.set_cons_zero, List.set_cons_succ])
            | (refine Txt.tl_load (v := ?_) (by rfl) (by rfl) (by rfl) (by kernel_rfl) ?_ ?_; rotate_left; (focus (first | assumption | (go_simp; done) | (go_simp; with_reducible rfl))); simp only [Act.put, List.setIfInBounds_toArray, List.set_cons_zero, List.set_cons_succ])
            | (refine Txt.tl_alloc (by rfl) ?_; go_simp; refine ⟨by (first | exact Txt.Le.alloc_drew _ _ | exact Txt.Le.alloc _ _), ?_⟩))
          refine Txt.tl_loud (by rfl) ?_
          go_simp
          refine (xend_v _ w1.heap.size rm _ ev (Hx4.out.keep Hk6.out (fun h => h)) Hxe.out).mono ?_
          rintro e w7 ⟨rfl, rfl⟩
          dsimp only
          refine ⟨z1, ?_⟩
          repeat (first
            | (refine Txt.tl_pure (v := ?_) (by rfl) ?_ ?_; rotate_left; (focus (intro _; go_simp; try with_reducible rfl)); simp only [Act.put, List.setIfInBounds_toArray, List.set_cons_zero, List.set_cons_succ])
            | (refine Txt.tl_skip (by rfl) trivial ?_; simp only [Act.put, List.setIfInBounds_toArray, List.set_cons_zero, List.set_cons_succ])
            | (refine Txt.tl_load (v := ?_) (by rfl) (by rfl) (by rfl) (by kernel_rfl) ?_ ?_; rotate_left; (focus (first | assumption | (go_simp; done) | (go_simp; with_reducible rfl))); simp only [Act.put, List.setIfInBounds_toArray, List.set_cons_zero, List.set_cons_succ])
            | (refine Txt.tl_alloc (by rfl) ?_; go_simp; refine ⟨by (first | exact Txt.Le.alloc_drew _ _ | exact Txt.Le.alloc _ _), ?_⟩))
          refine Txt.tl_nil ?_
          go_wp2
          go_roundw
          case rel =>
            refine ⟨k + 1, at', _, by omega, rfl, Hr3.out.keep Hk6.out (fun h => h), Hx3.out.keep Hk6.out (fun h => h), Hkw3.out.still Hk6.out, Hl1.out⟩
          case measure => simp [intOf]; omega
        · have hb1 : (bad' != 0) = true := by simpa using hb
          have hle : (lv != 0) = false := by have h1 := Hlv.out; rw [if_neg hb] at h1; simp [← h1]
          go_wp2
          refine Txt.wp_region_text (fun w' => w'.cell? ⟨w1.heap.size, 1, none⟩ = some (.int .i64 (bad'))) [0, 0, 0, 0, 4, 0, 0, 0, 0, 0, 4, 0, 0, 0, 2, 0, 0, 0, 0, 4, 0, 4, 0, 0] (by kernel_rfl) (by kernel_rfl) x1 ?_
          repeat (first
            | (refine Txt.tl_pure (v := ?_) (by rfl) ?_ ?_; rotate_left; (focus (intro _; go_simp; try with_reducible rfl)); simp only [Act.put, List.setIfInBounds_toArray, List.set_cons_zero, List.set_cons_succ])
            | (refine Txt.tl_skip (by rfl) trivial ?_; simp only [Act.put, List.setIfInBounds_toArray, List.set_cons_zero, List.set_cons_succ])
            | (refine Txt.tl_load (v := ?_) (by rfl) (by rfl) (by rfl) (by kernel_rfl) ?_ ?_; rotate_left; (focus (first | assumption | (go_simp; done) | (go_simp; with_reducible rfl))); simp only [Act.put, List.setIfInBounds_toArray, List.set_cons_zero, List.set_cons_succ])
            | (refine Txt.tl_alloc (by rfl) ?_; go_simp; refine ⟨by (first | exact Txt.Le.alloc_drew _ _ | exact Txt.Le.alloc _ _), ?_⟩))
          refine Txt.tl_loud (by rfl) ?_
          go_simp
          refine (left_v _ W.heap.size s at' _ lv (Hr3.out.keep (Keep.refl (fun _ => False) _).drew (fun h => h)) Hlv.out).mono ?_
          rintro e w4 ⟨rfl, k4⟩
          have Hk4 : Hid (Keep _ w3 w4) := (Keep.refl _ w3).drew.trans k4
          have y1 : w4.cell? ⟨w1.heap.size, 1, none⟩ = some (.int .i64 (bad')) := (Hk4.out.cell (lt_of_block Hx4.out.blk) (fun h => h)).trans x1
          clear k4
          dsimp only
          refine ⟨y1, ?_⟩
          repeat (first
            | (refine Txt.tl_pure (v := ?_) (by rfl) ?_ ?_; rotate_left; (focus (intro _; go_simp; try with_reducible rfl)); simp only [Act.put, List.setIfInBounds_toArray, List.set_cons_zero, List.set_cons_succ])
            | (refine Txt.tl_skip (by rfl) trivial ?_; simp only [Act.put, List.setIfInBounds_toArray, List.set_cons_zero, List.set_cons_succ])
            | (refine Txt.tl_load (v := ?_) (by rfl) (by rfl) (by rfl) (by kernel_rfl) ?_ ?_; rotate_left; (focus (first | assumption | (go_simp; done) | (go_simp; with_reducible rfl))); simp only [Act.put, List.setIfInBounds_toArray, List.set_cons_zero, List.set_cons_succ])
            | (refine Txt.tl_alloc (by rfl) ?_; go_simp; refine ⟨by (first | exact Txt.Le.alloc_drew _ _ | exact Txt.Le.alloc _ _), ?_⟩))
          refine Txt.tl_loud (by rfl) ?_
          go_simp
          refine (err_any _ W.heap.size s at' _ (Hr3.out.keep Hk4.out (fun h => h))).mono ?_
          rintro e w5 ⟨rfl, rfl⟩
          dsimp only
          refine ⟨y1, ?_⟩
          repeat (first
            | (refine Txt.tl_pure (v := ?_) (by rfl) ?_ ?_; rotate_left; (focus (intro _; go_simp; try with_reducible rfl)); simp only [Act.put, List.setIfInBounds_toArray, List.set_cons_zero, List.set_cons_succ])
            | (refine Txt.tl_skip (by rfl) trivial ?_; simp only [Act.put, List.setIfInBounds_toArray, List.set_cons_zero, List.set_cons_succ])
            | (refine Txt.tl_load (v := ?_) (by rfl) (by rfl) (by rfl) (by kernel_rfl) ?_ ?_; rotate_left; (focus (first | assumption | (go_simp; done) | (go_simp; with_reducible rfl))); simp only [Act.put, List.setIfInBounds_toArray, List.set_cons_zero, List.set_cons_succ])
            | (refine Txt.tl_alloc (by rfl) ?_; go_simp; refine ⟨by (first | exact Txt.Le.alloc_drew _ _ | exact Txt.Le.alloc _ _), ?_⟩))
          refine Txt.tl_loadS (v := .int .i64 (bad')) (by rfl) (by rfl) (by rfl) (by kernel_rfl) (fun _ h => h) ?_
          simp only [Act.put, List.setIfInBounds_toArray, List.set_cons_zero, List.set_cons_succ]
          repeat (first
            | (refine Txt.tl_pure (v := ?_) (by rfl) ?_ ?_; rotate_left; (focus (intro _; go_simp; try with_reducible rfl)); simp only [Act.put, List.setIfInBounds_toArray, List.set_cons_zero, List.set_cons_succ])
            | (refine Txt.tl_skip (by rfl) trivial ?_; simp only [Act.put, List.setIfInBounds_toArray, List.set_cons_zero, List.set_cons_succ])
            | (refine Txt.tl_load (v := ?_) (by rfl) (by rfl) (by rfl) (by kernel_rfl) ?_ ?_; rotate_left; (focus (first | assumption | (go_simp; done) | (go_simp; with_reducible rfl))); simp only [Act.put, List.setIfInBounds_toArray, List.set_cons_zero, List.set_cons_succ])
            | (refine Txt.tl_alloc (by rfl) ?_; go_simp; refine ⟨by (first | exact Txt.Le.alloc_drew _ _ | exact Txt.Le.alloc _ _), ?_⟩))
          refine Txt.tl_loud (by rfl) ?_
          go_simp
          refine (end_v _ W.heap.size s at' _ ev (Hr3.out.keep Hk4.out (fun h => h)) Hev.out).mono ?_
          rintro e w6 ⟨rfl, k6⟩
          have Hk6 : Hid (Keep _ w3 w6) := Hk4.out.trans k6
          have z1 : w6.cell? ⟨w1.heap.size, 1, none⟩ = some (.int .i64 (bad')) := (Hk6.out.cell (lt_of_block Hx4.out.blk) (fun h => h)).trans x1
          clear k6
          dsimp only
          refine ⟨z1, ?_⟩
          repeat (first
            | (refine Txt.tl_pure (v := ?_) (by rfl) ?_ ?_; rotate_left; (focus (intro _; go_simp; try with_reducible rfl)); simp only [Act.put, List.setIfInBounds_toArray, List.set_cons_zero, List.set_cons_succ])
            | (refine Txt.tl_skip (by rfl) trivial ?_; simp only [Act.put, List.setIfInBounds_toArray, List.set_cons_zero, List.set_cons_succ])
            | (refine Txt.tl_load (v := ?_) (by rfl) (by rfl) (by rfl) (by kernel_rfl) ?_ ?_; rotate_left; (focus (first | assumption | (go_simp; done) | (go_simp; with_reducible rfl))); simp only [Act.put, List.setIfInBounds_toArray, List.set_cons_zero, List.set_cons_succ])
            | (refine Txt.tl_alloc (by rfl) ?_; go_simp; refine ⟨by (first | exact Txt.Le.alloc_drew _ _ | exact Txt.Le.alloc _ _), ?_⟩))
          refine Txt.tl_loud (by rfl) ?_
          go_simp
          refine (xend_v _ w1.heap.size rm _ ev (Hx4.out.keep Hk6.out (fun h => h)) Hxe.out).mono ?_
          rintro e w7 ⟨rfl, rfl⟩
          dsimp only
          refine ⟨z1, ?_⟩
          repeat (first
            | (refine Txt.tl_pure (v := ?_) (by rfl) ?_ ?_; rotate_left; (focus (intro _; go_simp; try with_reducible rfl)); simp only [Act.put, List.setIfInBounds_toArray, List.set_cons_zero, List.set_cons_succ])
            | (refine Txt.tl_skip (by rfl) trivial ?_; simp only [Act.put, List.setIfInBounds_toArray, List.set_cons_zero, List.set_cons_succ])
            | (refine Txt.tl_load (v := ?_) (by rfl) (by rfl) (by rfl) (by kernel_rfl) ?_ ?_; rotate_left; (focus (first | assumption | (go_simp; done) | (go_simp; with_reducible rfl))); simp only [Act.put, List.setIfInBounds_toArray, List.set_cons_zero, List.set_cons_succ])
            | (refine Txt.tl_alloc (by rfl) ?_; go_simp; refine ⟨by (first | exact Txt.Le.alloc_drew _ _ | exact Txt.Le.alloc _ _), ?_⟩))
          refine Txt.tl_nil ?_
          go_wp2
          go_roundw
          case rel =>
            refine ⟨k + 1, at', _, by omega, rfl, Hr3.out.keep Hk6.out (fun h => h), Hx3.out.keep Hk6.out (fun h => h), Hkw3.out.still Hk6.out, Hl1.out⟩
          case measure => simp [intOf]; omega
    · have HR : Hid _ := hrel
      clear hrel
      by_cases hlt2 : k < len
      · obtain rfl : k = 60 := by omega
        go_wp2_with (first | (go_at_call 15; refine (Law.awake_true _).mono ?_; rintro e w2 ⟨rfl, k2⟩; have K2 : Hid _ := k2; clear k2))
        go_ret
        exact ⟨rfl, Keep.below (S := fun y => W.heap.size ≤ y) (HR.out.keep.still K2.out) (Nat.le_refl _) (fun _ h => h)⟩
      · obtain rfl : k = len := by omega
        go_wp2_with (first | (go_at_call 15; refine (Law.awake_true _).mono ?_; rintro e w2 ⟨rfl, k2⟩; have K2 : Hid _ := k2; clear k2))
        go_ret
        exact ⟨rfl, Keep.below (S := fun y => W.heap.size ≤ y) (HR.out.keep.still K2.out) (Nat.le_refl _) (fun _ h => h)⟩
/-- No calls at all. -/
theorem go0 (s : ByteArray) (a : Option Addr) (cap : Nat) (W : World) (hs : s.size ≤ maxLen) :
    Calls Try.prog 4 #[.string s, .slice a 0 cap] W fun e W' => e = .returned (.bool true) ∧ Below W.heap.size W W' := by
  go_enter Try.func4, Try.ntmps4
  go_wp2_with (first | (go_at_call 16; refine (open_any _ s hs).mono ?_; rintro e w1 ⟨rfl, h1, k1⟩; have H1 : Hid _ := h1; have K1 : Hid _ := k1; clear h1 k1))
  go_loop [7] (fun i => i = .int .i64 0) (fun _ => 0)
  case atStart => rfl
  case round =>
    obtain rfl := hrel
    go_wp2_with (first | (go_at_call 15; refine (Law.awake_true _).mono ?_; rintro e w2 ⟨rfl, k2⟩; have K2 : Hid _ := k2; clear k2))
    go_ret
    exact ⟨rfl, Keep.below (S := fun _ => False) ((K1.out.alloc _).trans K2.out) (Nat.le_refl _) (fun _ h => h.elim)⟩

theorem own : ownKnob Try.prog.godebug = none := by kernel_rfl
theorem laidOut : laidOutB Try.prog = true := by kernel_rfl
theorem contract (H : Type) (enc : TypeId × Value → H) (W : World) (base : Nat) (args : Array Value) (ds gs : List (DataW H)) (before : List MemPlace)
    (hval : ∀ (j : Nat) t v, Try.f4.params[j]? = some t → args[j]? = some v → Value.okWide Try.prog W .any base t v)
    (hW : DataW.Whole enc Try.prog Try.f4.params.toList Rows.octetReadsSpec.vars false W args.toList ds gs before) :
    Calls Try.prog 4 args W fun e W' => ∃ v, e = .returned v ∧ Rows.octetReadsSpec.post enc Try.prog Try.f4 false true false false W args v W' := by
  have hW' := hW
  obtain ⟨p, q, hA0, hV, rfl, hfz, hnd⟩ := hW
  have hA : DataW.TrodAll enc Try.prog W 0 (fun _ => true) true Try.f4.params.toList args.toList ds p := hA0
  rw [Try.params4] at hA hval
  obtain ⟨rfl, rfl⟩ := trodVars_none hV
  obtain ⟨v0, vs0, d0, ds0, p0, q0, hargs, rfl, rfl, h0, r0⟩ := trodAll_cons hA
  obtain ⟨v1, vs1, d1, ds1, p1, q1, rfl, rfl, rfl, h1, r1⟩ := trodAll_cons r0
  obtain ⟨rfl, rfl, rfl⟩ := trodAll_nil r1
  obtain rfl : args = #[v0, v1] := by cases args; simp_all
  obtain ⟨s, rfl, rfl, rfl, hs⟩ := open_string Try.underlying9 (hval 0 _ v0 rfl rfl) h0
  obtain ⟨⟨a, len, cap, els⟩, rfl, hat, hbk⟩ := Opn.open_sl Try.underlying22 rdl (hval 1 _ v1 rfl rfl) h1
  obtain ⟨e1, e2, e3, e4⟩ := hat
  simp only at e1 e2 e3 e4 hbk
  have key : Calls Try.prog 4 #[.string s, .slice a len cap] W fun e W' => e = .returned (.bool true) ∧ Below W.heap.size W W' := by
    rcases e4 with e4 | ⟨b, off, rfl, hb, hel⟩
    · subst e4; exact go0 s a cap W hs
    · rcases Nat.eq_zero_or_pos len with h0 | hpos
      · subst h0; exact go0 s _ cap W hs
      · exact go s b off len cap els W hs e1 hpos hb (Nat.le_trans e2 e3) hel
  refine key.mono fun e W' ⟨he, bel⟩ => ?_
  subst he
  exact ⟨_, rfl, Opn.law_post laidOut (by kernel_rfl) rfl Try.underlying4 rfl rfl hW' bel⟩
set_option maxRecDepth 100000 in
theorem lifted (os : Os) (started : os.Started) (H : Type) (enc : TypeId × Value → H) :
    ReturnsInHanded {} Try.checked os 4 .any (Rows.octetReadsSpec.pre6 enc Try.prog Try.f4 Rows.octetReadsRow.domain false) (Rows.octetReadsSpec.post enc Try.prog Try.f4 false true false false) := by
  refine returnsInHanded_of_change (C := Try.checked) own started (by kernel_rfl) Try.func4
    (ChangeSpec.witness6 (enc := enc) (C := Try.checked) false ⟨#[], #[.string .empty, .slice none 0 0], []⟩ 8 (by kernel_rfl) (by kernel_rfl) (by kernel_rfl) (by kernel_rfl)) ?_
  intro W base args ds gs before hval0 hW hcnd _
  exact contract H enc W base args ds gs before hval0 hW
theorem over : Rows.octetReadsRow.holds Try.pinned (OpenSpec.ofChange Rows.octetReadsSpec) :=
  OpenClaim.holds_of_wide 4 Try.f4 rfl rfl rfl rfl rfl rfl rfl ⟨rfl, rfl, rfl, rfl, rfl⟩ rfl rfl rfl rfl rfl (by kernel_rfl) Try.func4 (by kernel_rfl)
    (of_decide_eq_true (by kernel_rfl)) (by unfold Func.isWrapper; first | (rw [if_pos (by decide +kernel)]; kernel_rfl) | (rw [if_neg (by decide +kernel)]; exact ⟨rfl, rfl⟩))
    (fun os started H enc _ => lifted os started H enc)
theorem proved : Rows.OctetReadsSaid := over
end OctRd
end Go.Proofs.Ytbeiaobdapapjaa
