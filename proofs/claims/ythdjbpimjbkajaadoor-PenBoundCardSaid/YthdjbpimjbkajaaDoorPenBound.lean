/-
  'petrellaw18.PenBound': whoever waits, never more than may; each that went was the first one. For every input.
-/
import Derived.Test.YthdjbpimjbkajaaDoorPn9
import Derived.Test.YthdjbpimjbkajaaDoorLad2
import Derived.Test.YthdjbpimjbkajaaDoorTie
import Derived.Test.YthdjbpimjbkajaaDoorCards
import Derived.SevenTiedAt
import Derived.Stop.Joined
set_option linter.unusedVariables false
set_option linter.unusedSimpArgs false
namespace Go.Proofs.YthdjbpimjbkajaaDoor
open Go.RowKit
namespace PenBound
open Oct Ids Gn Hd Pn Go.ChangeShapes Go.WideShapes Go.ChangeAt
open Mem (M It blk ids rows)

theorem penCalm {w w' : World} {b : Nat} {v : Value} {L : List Wt} {lost : Int} (h : PenAt w b v L lost) (k : Keep (fun _ => False) w w') : PenTo w w' b v L v L lost :=
  ⟨h.calm k, k.mono (fun _ _ h => h.elim), fun _ hk => .inl hk⟩
/-- What a call of 'Put' comes to. -/
def PutRes (w : World) (b : Nat) (v : Value) (L : List Wt) (e : Ending) (w' : World) : Prop :=
  ∃ (id : List UInt8) (g : Bool) (er : Int) (v' : Value) (L' : List Wt) (lost' : Int), id.length = 32 ∧ e = .returned (.tuple #[idv id, .bool g, .int .i64 er]) ∧ PenTo w w' b v L v' L' lost' ∧ (0 ≤ lost' ∧ lost' ≤ 1000) ∧
    ((g = false ∧ L' = L) ∨ (g = false ∧ er = 0 ∧ L.length < 8 ∧ L'.length = L.length + 1) ∨ (g = true ∧ er = 0 ∧ 8 ≤ L.length ∧ L'.length = L.length ∧ ∃ y, L[0]? = some y ∧ id = y.id))
theorem pput (w : World) (hF : Sha.TabF w) (hK : Sha.TabK w) (b : Nat) (v : Value) (L : List Wt) (lost : Int) (hp : PenAt w b v L lost) (hl : L.length ≤ 900) (hlost : 0 ≤ lost ∧ lost ≤ 1000)
    (a : Option Addr) (n c : Nat) (l : List (List UInt8)) (G : Int) (T : ByteArray) (A Q Z : Int) (m : List UInt8) (fr : Int) (h : At w a n l) (hm : m.length = 32) (hn : n ≤ 1000000) (hT : T.size ≤ maxLen) :
    Calls Tryd.prog 25 #[.pointer (some ⟨b, 0, none⟩), .agg (hd (.slice a n c) G T A Q Z m).toArray, .int .i64 fr] w (PutRes w b v L) := by
  by_cases hc : ck n l G T A Q Z = 0
  · cases hh : L.any (fun x => x.id == iv n l G T A Q Z m) with
    | true =>
      refine (put_has w hF hK b v L lost hp hl a n c l G T A Q Z m fr h hm hn hT hc hh).mono fun e w' ⟨he, k⟩ => ?_
      exact ⟨Z32, false, 0, v, L, lost, rfl, he, penCalm hp k, hlost, .inl ⟨rfl, rfl⟩⟩
    | false =>
      refine (put_new w hF hK b v L lost hp hl a n c l G T A Q Z m fr h hm hn hT hc hh hlost).mono fun e w' hh => ?_
      obtain ⟨x, v', _, _, _, _, _, _, _, _, _, _, hcs⟩ := hh
      rcases hcs with ⟨h8, he, ht⟩ | ⟨h8, y, hy, he, ht⟩
      · exact ⟨Z32, false, 0, v', L ++ [x], lost, rfl, he, ht, hlost, .inr (.inl ⟨rfl, rfl, h8, by simp⟩)⟩
      · refine ⟨y.id, true, 0, v', (L ++ [x]).drop 1, min (lost + 1) 1000, y.hid, he, ht, by omega, .inr (.inr ⟨rfl, rfl, h8, by simp, y, ?_, rfl⟩)⟩
        rwa [List.getElem?_append_left (by omega)] at hy
  · refine (put_bad w hF hK b v L lost hp a n c l G T A Q Z m fr h hm hn hT _ rfl hc).mono fun e w' ⟨he, k⟩ => ?_
    exact ⟨Z32, false, _, v, L, lost, rfl, he, penCalm hp k, hlost, .inl ⟨rfl, rfl⟩⟩
set_option maxRecDepth 100000 in
set_option maxHeartbeats 8000000 in
theorem walk (s : Opn.Sl HH) (w : World) (hT : Sha.TabF w ∧ Sha.TabK w) (hs : Opn.SlAt 38 layH factH w s) :
    Calls Tryd.prog 7 #[.slice s.a s.len s.cap] w fun e w' => e = .returned (.bool true) ∧ Below w.heap.size w w' := by
  obtain ⟨hln, hlc, hcm, hlay⟩ := hs
  obtain ⟨a, n, c, els⟩ := s
  simp only at hln hlc hcm hlay ⊢
  unfold maxLen at hcm
  have HL : Hid (els.length = n) := hln
  have HLay : Hid _ := hlay
  have HF : Hid (Sha.TabF w) := hT.1
  have HK : Hid (Sha.TabK w) := hT.2
  have HM : Hid (M (fun _ => False) w w []) := M.start _ w
  clear hln hlay hT
  go_enter Tryd.func7, Tryd.ntmps7
  go_wp2_with (first | (go_at_call 23; refine (pnew _).mono ?_; rintro e w1 ⟨rfl, h1, k1⟩; have HM : Hid (M (fun _ => False) w w1 [penI w.heap.size (.slice none 0 0) [] 0]) := HM.out.add (x := penI w.heap.size (.slice none 0 0) [] 0) k1 h1 (fun k hk => by rcases hk with (hk | hk) | ⟨y, hy, _⟩; (have := lt_of_block h1.blk; omega); (simp [Value.ownBlock] at hk); (cases hy)); clear h1 k1))
  go_loopw [4] (fun i wr => ∃ (k : Nat) (v : Value) (L : List Wt) (lost : Int), k ≤ n ∧ k ≤ 30 ∧ i = .int .i64 k ∧ M (fun _ => False) w wr [penI w.heap.size v L lost] ∧ L.length ≤ 8 ∧ 0 ≤ lost ∧ lost ≤ 1000) (fun i _ => 30 - (intOf i).toNat)
  case atStart => exact ⟨0, _, _, _, Nat.zero_le _, Nat.zero_le _, rfl, HM.out, Nat.zero_le _, by omega, by omega⟩
  case round =>
    obtain ⟨k, v, L, lost, hk, hk30, rfl, hM, hL8, hlo, hlo2⟩ := hrel
    have HM : Hid (M (fun _ => False) w wr [penI w.heap.size v L lost]) := hM
    have H8 : Hid (L.length ≤ 8) := hL8
    have Hlo : Hid (0 ≤ lost ∧ lost ≤ 1000) := ⟨hlo, hlo2⟩
    clear hM hlo hlo2
    by_cases hlt : k < n ∧ k < 30
    · obtain ⟨hkn, hk3⟩ := hlt
      obtain ⟨x, hx⟩ : ∃ x, els[k]? = some x := ⟨_, List.getElem?_eq_getElem (by rw [HL.out]; omega)⟩
      obtain ⟨b1, o1, rfl, hb1, hr1⟩ : ∃ b off, a = some ⟨b, off, none⟩ ∧ b < w.heap.size ∧ ∀ i x, els[i]? = some x → w.rangeAt b (off + i * 38) (layH x) ∧ factH w x := by rcases HLay.out with e | e; omega; exact e
      obtain ⟨hr, hf⟩ := hr1 k x hx
      have R1 : Hid (wr.rangeAt b1 (o1 + k * 38) (layH x)) := HM.out.keep.range hb1 (fun h => h) hr
      have R0 : Hid (w.rangeAt b1 (o1 + k * 38) (layH x)) := hr
      have Ax : Hid (At w x.1.a x.1.len x.1.els) := hf.2.1
      have Hm : Hid (x.2.2.2.2.2.2.1.length = 32) := hf.1
      have HTx : Hid (x.2.2.1.size ≤ maxLen) := hf.2.2.1
      have hTx := hf.2.2.1
      have hmx := hf.2.1.most
      unfold maxLen at hTx hmx
      have dq0 : wr.cell? ⟨b1, o1 + k * 38, none⟩ = some (.slice x.1.a x.1.len x.1.cap) := R1.out 0 _ rfl
      have dq2 : wr.cell? ⟨b1, o1 + k * 38 + 2, none⟩ = some (.string x.2.2.1) := R1.out 2 _ rfl
      obtain ⟨⟨xa, xn, xc, xl⟩, xG, xT, xA, xQ, xZ, xm, _⟩ := x
      simp only at Ax Hm HTx hTx hmx dq0 dq2
      have R0 : Hid (w.rangeAt b1 (o1 + k * 38) (hd (.slice xa xn xc) xG xT xA xQ xZ xm)) := R0.out
      clear hr hf hr1 hx
      by_cases hgo : xn ≤ 20 ∧ xT.size ≤ 100
      · obtain ⟨h20, h100⟩ := hgo
        go_wp2_with (first | ((with_reducible refine at_load 29 ?_); refine St.wl_load tyH (by rfl) rfl rfl (HM.out.keep.range hb1 (fun h => h) R0.out) (hd_len _ _ _ _ _ _ _ Hm.out) ?_; simp only [Act.put, List.setIfInBounds_toArray, List.set_cons_zero, List.set_cons_succ]) | (go_at_call 24; refine (pall wr w.heap.size v L lost (HM.out.get 0 rfl) (by omega)).mono ?_; rintro e w2 ⟨v2, rfl, n2⟩; obtain ⟨a2, c2, e2, at2, _⟩ := n2.1.at; have HM : Hid _ := HM.out.add (x := ids v2 (L.map fun x : Wt => x.id)) n2.2.1 n2.1 (fun k hk => ⟨n2.2.2 k hk, n2.1.lt hk⟩); rw [List.length_map] at e2; subst e2; clear n2 at2) | (go_at_call 25; refine (pput w2 (HF.out.keep HM.out.keep (fun h => h)) (HK.out.keep HM.out.keep (fun h => h)) w.heap.size v L lost (HM.out.get 0 rfl) (by omega) Hlo.out xa xn xc xl xG xT xA xQ xZ xm k (Ax.out.calm HM.out.keep) Hm.out (by omega) HTx.out).mono ?_; rintro e w3 ⟨id, g, er, v3, L3, lost3, hid, rfl, t3, hl3, hcs⟩; have HM : Hid _ := M.pen HM.out 0 rfl t3; have Hid3 : Hid (id.length = 32) := hid; have Hidm : Hid ((id.map bv).toArray.size = 32) := (by show _ = _; rw [List.size_toArray, List.length_map]; exact hid); have Hl3 : Hid _ := hl3; have HC : Hid _ := hcs; clear hid t3 hl3 hcs) | (refine St.wl_alloc tyI rfl rfl (by (try simp only [World.size_alloc]); rfl) ?_; simp only [Act.put, List.setIfInBounds_toArray, List.set_cons_zero, List.set_cons_succ]) | (refine St.wl_storeN (W := w3) tyI rfl rfl rfl rfl rfl (by (try simp only [World.size_alloc])) (show _ = Value.agg (id.map bv).toArray from rfl) Hidm.out rfl (one_bv _) ?_; have HM : Hid _ := HM.out.alloc (.cells (id.map bv).toArray 23) rfl) | (go_at_call 24; refine (pall _ w.heap.size v3 L3 lost3 (HM.out.get 0 rfl) (by rcases HC.out with ⟨_, e⟩ | ⟨_, _, h, e⟩ | ⟨_, _, _, e, _⟩; (rw [e]; omega); omega; omega)).mono ?_; rintro e w4 ⟨v4, rfl, n4⟩; obtain ⟨a4, c4, e4, at4, _⟩ := n4.1.at; have HM : Hid _ := HM.out.add (x := ids v4 (L3.map fun x : Wt => x.id)) n4.2.1 n4.1 (fun k hk => ⟨n4.2.2 k hk, n4.1.lt hk⟩); rw [List.length_map] at e4; subst e4; clear n4 at4))
        obtain ⟨ib, hib⟩ : ∃ b, w3.heap.size = b := ⟨_, rfl⟩
        obtain ⟨q, hq⟩ : ∃ q, L.length = q := ⟨_, rfl⟩
        obtain ⟨q3, hq3⟩ : ∃ q, L3.length = q := ⟨_, rfl⟩
        rw [hib, hq, hq3] at HM
        rw [hib, hq, hq3]
        clear hib dq0 dq2
        have hq8 : q ≤ 8 := by rw [← hq]; exact H8.out
        rcases HC.out with ⟨e1, e⟩ | ⟨e1, e2, h8, e⟩ | ⟨e1, e2, h8, e, y, hy, eid⟩
        · subst e1
          have hq3' : q3 = q := by rw [← hq3, ← hq, e]
          have H3 : Hid (L3.length ≤ 8) := by show _ ≤ _; rw [hq3, hq3']; exact hq8
          subst hq3'
          clear e hq hq3
          have hq9 : ¬ (8 : Int) < (q3 : Int) := by omega
          have hq10 : ¬ (q3 : Int) + 1 < (q3 : Int) := by omega
          by_cases her : er = 0
          · subst her
            refine Txt.wp_region_text (fun _ => True) [0, 0, 0, 0, 0, 0, 0, 0, 0, 0, 0, 0, 0, 0, 0, 0, 0, 1, 0, 0, 1, 0, 0, 0, 0, 0, 0, 0, 0, 0, 0, 0] (by kernel_rfl) (by kernel_rfl) trivial ?_
            repeat (first
              | (refine Txt.tl_pure (v := ?_) (by rfl) ?_ ?_; rotate_left; (focus (intro _; go_simp; try with_reducible rfl)); simp only [Act.put, List.setIfInBounds_toArray, List.set_cons_zero, List.set_cons_succ])
              | (refine Txt.tl_skip (by rfl) trivial ?_; simp only [Act.put, List.setIfInBounds_toArray, List.set_cons_zero, List.set_cons_succ])
              | (refine Txt.tl_load (v := ?_) (by rfl) (by rfl) (by rfl) (by kernel_rfl) ?_ ?_; rotate_left; (focus (first | assumption | (go_simp; done) | (go_simp; with_reducible rfl))); simp only [Act.put, List.setIfInBounds_toArray, List.set_cons_zero, List.set_cons_succ])
              | (refine Txt.tl_alloc (by rfl) ?_; go_simp; refine ⟨by (first | exact Txt.Le.alloc_drew _ _ | exact Txt.Le.alloc _ _), ?_⟩))
            refine Txt.tl_nil ?_
            go_wp2
            go_roundw
            case rel => exact ⟨k + 1, _, L3, lost3, by omega, by omega, rfl, HM.out.drew.take 1, H3.out, Hl3.out.1, Hl3.out.2⟩
            case measure => simp [intOf]; omega
          · have her2 : (er != 0) = true := by simpa using her
            clear her
            refine Txt.wp_region_text (fun _ => True) [0, 0, 0, 0, 0, 0, 0, 0, 0, 0, 0, 0, 0, 0, 0, 0, 0, 1, 0, 0, 1, 0, 0, 0, 0, 0, 0, 0, 0, 0, 0, 0] (by kernel_rfl) (by kernel_rfl) trivial ?_
            repeat (first
              | (refine Txt.tl_pure (v := ?_) (by rfl) ?_ ?_; rotate_left; (focus (intro _; go_simp; try with_reducible rfl)); simp only [Act.put, List.setIfInBounds_toArray, List.set_cons_zero, List.set_cons_succ])
              | (refine Txt.tl_skip (by rfl) trivial ?_; simp only [Act.put, List.setIfInBounds_toArray, List.set_cons_zero, List.set_cons_succ])
              | (refine Txt.tl_load (v := ?_) (by rfl) (by rfl) (by rfl) (by kernel_rfl) ?_ ?_; rotate_left; (focus (first | assumption | (go_simp; done) | (go_simp; with_reducible rfl))); simp only [Act.put, List.setIfInBounds_toArray, List.set_cons_zero, List.set_cons_succ])
              | (refine Txt.tl_alloc (by rfl) ?_; go_simp; refine ⟨by (first | exact Txt.Le.alloc_drew _ _ | exact Txt.Le.alloc _ _), ?_⟩))
            refine Txt.tl_nil ?_
            go_wp2
            go_roundw
            case rel => exact ⟨k + 1, _, L3, lost3, by omega, by omega, rfl, HM.out.drew.take 1, H3.out, Hl3.out.1, Hl3.out.2⟩
            case measure => simp [intOf]; omega
        · subst e1 e2
          have hq3' : q3 = q + 1 := by rw [← hq3, ← hq, e]
          have H3 : Hid (L3.length ≤ 8) := by show _ ≤ _; rw [hq3, hq3']; omega
          have hqq : ¬ (q : Int) + 1 < (q3 : Int) := by omega
          have hq8' : ¬ (8 : Int) < (q3 : Int) := by omega
          clear e hq hq3 hq3' h8
          refine Txt.wp_region_text (fun _ => True) [0, 0, 0, 0, 0, 0, 0, 0, 0, 0, 0, 0, 0, 0, 0, 0, 0, 1, 0, 0, 1, 0, 0, 0, 0, 0, 0, 0, 0, 0, 0, 0] (by kernel_rfl) (by kernel_rfl) trivial ?_
          repeat (first
            | (refine Txt.tl_pure (v := ?_) (by rfl) ?_ ?_; rotate_left; (focus (intro _; go_simp; try with_reducible rfl)); simp only [Act.put, List.setIfInBounds_toArray, List.set_cons_zero, List.set_cons_succ])
            | (refine Txt.tl_skip (by rfl) trivial ?_; simp only [Act.put, List.setIfInBounds_toArray, List.set_cons_zero, List.set_cons_succ])
            | (refine Txt.tl_load (v := ?_) (by rfl) (by rfl) (by rfl) (by kernel_rfl) ?_ ?_; rotate_left; (focus (first | assumption | (go_simp; done) | (go_simp; with_reducible rfl))); simp only [Act.put, List.setIfInBounds_toArray, List.set_cons_zero, List.set_cons_succ])
            | (refine Txt.tl_alloc (by rfl) ?_; go_simp; refine ⟨by (first | exact Txt.Le.alloc_drew _ _ | exact Txt.Le.alloc _ _), ?_⟩))
          refine Txt.tl_nil ?_
          go_wp2
          go_roundw
          case rel => exact ⟨k + 1, _, L3, lost3, by omega, by omega, rfl, HM.out.drew.take 1, H3.out, Hl3.out.1, Hl3.out.2⟩
          case measure => simp [intOf]; omega
        · subst e1 e2 eid
          obtain rfl : q = 8 := by omega
          obtain rfl : q3 = 8 := by omega
          have H3 : Hid (L3.length ≤ 8) := by show _ ≤ _; omega
          obtain ⟨a2', c2', e2, at2, _⟩ := (show Own _ _ _ from HM.out.get 1 rfl).at
          simp only [Value.slice.injEq] at e2
          obtain ⟨rfl, e3, -⟩ := e2
          obtain ⟨bw, ow, ea, hbw, hrw⟩ : ∃ b off, a2 = some ⟨b, off, none⟩ ∧ b < _ ∧ ∀ i x, (L.map fun x : Wt => x.id)[i]? = some x → World.rangeAt _ b (off + i * 32) (x.map bv) := by rcases at2.lay with e | e; omega; exact e
          subst ea
          have HRw : Hid _ := hrw 0 y.id (by rw [List.getElem?_map, hy]; rfl)
          have hcmp : ∀ w, Sem.run Tryd.prog (binOp .neq 23 (.agg (y.id.map bv).toArray) (.agg (y.id.map bv).toArray)) w = .ok (.bool false) w := fun w => by have := neq_id w y.id y.id y.hid y.hid; simpa [idv] using this
          clear hrw at2 hy e e3 hq hq3 h8 hq8
          rw [Nat.zero_mul, Nat.add_zero] at HRw
          have HS : Hid (World.rangeAt _ ib 0 (y.id.map bv) ∧ World.rangeAt _ bw ow (y.id.map bv)) := ⟨HM.out.range 2 rfl, HRw.out⟩
          refine Txt.wp_region_text (fun w' => w'.rangeAt ib 0 (y.id.map bv) ∧ w'.rangeAt bw ow (y.id.map bv)) [0, 0, 0, 0, 0, 0, 0, 0, 0, 0, 0, 0, 0, 0, 0, 0, 0, 1, 0, 0, 1, 0, 0, 0, 0, 0, 0, 0, 0, 0, 0, 0] (by kernel_rfl) (by kernel_rfl) HS.out ?_
          have HS : Hid (World.rangeAt _ ib 0 (y.id.map bv) ∧ World.rangeAt _ bw ow (y.id.map bv)) := HS
          (repeat (first | (refine Txt.tl_pure (v := ?_) (by rfl) ?_ ?_; rotate_left; (focus (intro _; go_simp; try with_reducible rfl)); simp only [Act.put, List.setIfInBounds_toArray, List.set_cons_zero, List.set_cons_succ]) | (refine Txt.tl_skip (by rfl) HS.out ?_; simp only [Act.put, List.setIfInBounds_toArray, List.set_cons_zero, List.set_cons_succ]) | (refine Txt.tl_rowN (n := 32) (ty := 23) (by rfl) (by rfl) (by rfl) HS.out.1 (by kernel_rfl) (by rw [List.length_map]; exact y.hid) ?_; simp only [Act.put, List.setIfInBounds_toArray, List.set_cons_zero, List.set_cons_succ]) | (refine Txt.tl_rowN (n := 32) (ty := 23) (by rfl) (by rfl) (by rfl) HS.out.2 (by kernel_rfl) (by rw [List.length_map]; exact y.hid) ?_; simp only [Act.put, List.setIfInBounds_toArray, List.set_cons_zero, List.set_cons_succ])))
          refine Txt.tl_nil ?_
          go_wp2
          go_roundw
          case rel => exact ⟨k + 1, _, L3, lost3, by omega, by omega, rfl, HM.out.drew.take 1, H3.out, Hl3.out.1, Hl3.out.2⟩
          case measure => simp [intOf]; omega
      · have hgo' : 20 < xn ∨ (xn ≤ 20 ∧ 100 < xT.size) := by omega
        clear hgo
        rcases hgo' with h | ⟨h, h'⟩
        all_goals
          go_wp2
          go_roundw
          case rel => exact ⟨k + 1, _, L, lost, by omega, by omega, rfl, HM.out, H8.out, Hlo.out.1, Hlo.out.2⟩
          case measure => simp [intOf]; omega
    · have hgo' : n ≤ k ∨ (k < n ∧ 30 ≤ k) := by omega
      clear hlt
      rcases hgo' with h | ⟨h, h'⟩
      all_goals
        go_wp2_with (first | (go_at_call 26; refine (pawake _ (HF.out.keep HM.out.keep (fun h => h)) (HK.out.keep HM.out.keep (fun h => h))).mono ?_; rintro e w9 ⟨rfl, k1⟩; have HM : Hid _ := HM.out.calm k1; clear k1))
        go_ret
        exact ⟨rfl, Keep.below HM.out.keep (Nat.le_refl _) (fun _ h => h.elim)⟩
theorem rdHl : Opn.Rd Tryd.prog 49 1 (fun x : Opn.Sl HH => [x.val]) (Opn.SlAt 38 layH factH) (fun x => (x.els.map fun x => x.2.2.1.size).sum + 1) :=
  Opn.rd_slice Tryd.underlying49 (by kernel_rfl) (by omega) rdH
set_option maxRecDepth 100000 in
theorem own : ownKnob Tryd.prog.godebug = none := by kernel_rfl
set_option maxRecDepth 100000 in
theorem laidOut : laidOutB Tryd.prog = true := by kernel_rfl
set_option maxRecDepth 100000 in
theorem contract (H : Type) (enc : TypeId × Value → H) (W : World) (base : Nat) (args : Array Value) (ds gs : List (DataW H)) (before : List MemPlace)
    (hval : ∀ (j : Nat) t v, Tryd.f7.params[j]? = some t → args[j]? = some v → Value.okWide Tryd.prog W .any base t v)
    (hW : DataW.Whole enc Tryd.prog Tryd.f7.params.toList Rows.penBoundSpec.vars false W args.toList ds gs before) (hL : laidMetH Tryd.prog Rows.penBoundRow.laid W) :
    Calls Tryd.prog 7 args W fun e W' => ∃ v, e = .returned v ∧ Rows.penBoundSpec.post enc Tryd.prog Tryd.f7 false true false false W args v W' := by
  have hW' := hW
  have hTab := Lad.sha_of hL
  obtain ⟨p, q, hA0, hV, rfl, hfz, hnd⟩ := hW
  have hA : DataW.TrodAll enc Tryd.prog W 0 (fun _ => true) true Tryd.f7.params.toList args.toList ds p := hA0
  rw [Tryd.params7] at hA hval
  obtain ⟨rfl, rfl⟩ := trodVars_none hV
  obtain ⟨v0, vs0, d0, ds0, p0, q0, hargs, rfl, rfl, h0, r0⟩ := trodAll_cons hA
  obtain ⟨rfl, rfl, rfl⟩ := trodAll_nil r0
  obtain rfl : args = #[v0] := by cases args; simp_all
  obtain ⟨s, rfl, hs, _⟩ := Opn.open_sl Tryd.underlying49 rdHl (hval 0 _ v0 rfl rfl) h0
  refine (walk s W hTab hs).mono fun e W' ⟨he, bel⟩ => ?_
  subst he
  exact ⟨_, rfl, Opn.law_post laidOut (by kernel_rfl) rfl Tryd.underlying4 rfl rfl hW' bel⟩
set_option maxRecDepth 100000 in
theorem lifted (os : Os) (started : os.Started) (H : Type) (enc : TypeId × Value → H) :
    ReturnsInHanded {} Tryd.checked os 7 .any (fun w args => (Rows.penBoundSpec.pre enc Tryd.prog Tryd.f7 [] false w args ∧ laidMetH Tryd.prog Rows.penBoundRow.laid w) ∧ sizedMet enc Tryd.prog Tryd.f7 (OpenSpec.ofChange Rows.penBoundSpec) false w args)
      (Rows.penBoundSpec.post enc Tryd.prog Tryd.f7 false true false false) := by
  refine returnsInHanded_of_change_and (C := Tryd.checked) (X := fun w _ => laidMetH Tryd.prog Rows.penBoundRow.laid w) (fun _ _ _ hh h => h.of_heap hh) own started (by kernel_rfl) Tryd.func7
    (ChangeSpec.witness_shaped (enc := enc) (C := Tryd.checked) (os := os) (X := fun w _ => laidMetH Tryd.prog Rows.penBoundRow.laid w) false (World.laidAll Tryd.prog os Rows.penBoundRow.laid) #[.slice none 0 0] 8 (World.laidAll_os _ _ _)
      (World.shaped_of_ZipB (by kernel_rfl) (by kernel_rfl)) (by kernel_rfl) (by kernel_rfl) (by kernel_rfl)
      (by rw [MakeChecks.laidMetH_plain _ _ _ (by kernel_rfl)]; exact laidMet_laidAll _ (by kernel_rfl) (by kernel_rfl))) ?_
  intro W base args ds gs before hval0 hW _ _ hL _
  exact contract H enc W base args ds gs before hval0 hW hL
theorem over : Rows.penBoundRow.holds Tryd.pinned (OpenSpec.ofChange Rows.penBoundSpec) :=
  OpenClaim.holds_of_wide 7 Tryd.f7 rfl rfl rfl rfl rfl rfl rfl ⟨rfl, rfl, rfl, rfl, rfl⟩ rfl rfl rfl rfl rfl (by kernel_rfl) Tryd.func7 (by kernel_rfl)
    (of_decide_eq_true (by kernel_rfl)) (by unfold Func.isWrapper; first | (rw [if_pos (by decide +kernel)]; kernel_rfl) | (rw [if_neg (by decide +kernel)]; exact ⟨rfl, rfl⟩))
    (fun os started H enc _ => lifted os started H enc)
theorem proved : Rows.PenBoundCardSaid :=
  Claim7.holds_tied_plain_at .later [] [.data, .data] true _ false over (fun _ h => by cases h) (by kernel_rfl) (fun _ h => by cases h) penBound_row_tie rfl ⟨rfl, rfl⟩ (by kernel_rfl) rfl
    (fun f fn hf hfn => by
      obtain rfl : f = 7 := Option.some.inj ((show Tryd.prog.funcNamed "petrel/petrellaw18.PenBound" = some 7 by kernel_rfl).symm.trans hf) |>.symm
      obtain rfl : fn = Tryd.f7 := (Option.some.inj (Tryd.func7.symm.trans hfn)).symm
      exact ⟨by kernel_rfl, fun j t ht => by
        rw [Tryd.params7] at ht
        have hm : t ∈ [49] := by simpa using Array.mem_of_getElem? ht
        have hall : ([49].all fun u => !Tryd.prog.wantsStandIn u) = true := by kernel_rfl
        exact (show Tryd.prog.wantsStandIn t = false by simpa using List.all_eq_true.1 hall t hm)⟩)
    (by kernel_rfl)
end PenBound
end Go.Proofs.YthdjbpimjbkajaaDoor
