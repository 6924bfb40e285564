/-
  seq.Seq in memory; New, none, Len.
-/
import Derived.Test.YtgpimeobkacniaaGMm
import Derived.Test.YtgpimeobkacniaaMpK
import Derived.Test.YtgpimeobkacniaaRows4
import Derived.Laws.Cover3
import Derived.Carry
set_option linter.unusedVariables false
set_option linter.unusedSimpArgs false
namespace Go.Proofs.Ytgpimeobkacniaa
open Go.RowKit
namespace Mp
section
variable {P : Program} {ops : Array Oper} {rest : List Oper} {o : Oper} {a : Act} {w : World} {Q : Exit → Act → World → Prop}
/-- 'map[K]E{}'. -/
theorem wl_make (hgd : o.guard = none) {T : TypeId} (ho : o.op = .makeMap T none) {b : Nat} (hb : w.heap.size = b)
    (hh : wpList P ops Q rest (a.put o.dst (.map (some b))) (w.alloc (.map #[] 0))) : wpList P ops Q (o :: rest) a w :=
  wpList_plain hgd fun K' hK' => by
    subst hb
    unfold Oper.wp
    simp [execOp, ho, run_makeMap]
    exact hK' _ _ hh
end
end Mp
namespace Sq
open Oct Ids Mp
open Mem (M It blk ids rows)
section
/-- Some things held as one. -/
theorem pack {F : Nat → Prop} {w0 w : World} {l s : List It} (h : M F w0 w (l ++ s)) (z : It) (hz : z.holds w) (hf : ∀ k, z.foot k → ∃ (i : Nat) (y : It), s[i]? = some y ∧ y.foot k) : M F w0 w (l ++ [z]) := by
  have at_ : ∀ (i : Nat) (u : It), (l ++ [z])[i]? = some u → ((l ++ s)[i]? = some u ∧ i < l.length) ∨ (u = z ∧ i = l.length) := by
    intro i u hi
    rcases Nat.lt_or_ge i l.length with hlt | hge
    · rw [List.getElem?_append_left hlt] at hi
      exact .inl ⟨by rw [List.getElem?_append_left hlt]; exact hi, hlt⟩
    · rw [List.getElem?_append_right hge] at hi
      have h0 := (List.getElem?_eq_some_iff.1 hi).1
      simp at h0
      have h1 : i = l.length := by omega
      subst h1
      simp at hi
      exact .inr ⟨hi.symm, rfl⟩
  have fr : ∀ k, z.foot k → ∃ (i : Nat) (y : It), (l ++ s)[i]? = some y ∧ l.length ≤ i ∧ y.foot k := fun k hk => by
    obtain ⟨i, y, h1, h2⟩ := hf k hk
    exact ⟨l.length + i, y, by rw [List.getElem?_append_right (Nat.le_add_right _ _), Nat.add_sub_cancel_left]; exact h1, Nat.le_add_right _ _, h2⟩
  refine ⟨fun i u hi => ?_, fun i j u v hi hj hij k hu hv => ?_, fun i u hi k hk => ?_, h.keep⟩
  · rcases at_ i u hi with ⟨h1, _⟩ | ⟨rfl, _⟩
    · exact h.all i u h1
    · exact hz
  · rcases at_ i u hi with ⟨h1, e1⟩ | ⟨rfl, e1⟩ <;> rcases at_ j v hj with ⟨h2, e2⟩ | ⟨rfl, e2⟩
    · exact h.dis i j u v h1 h2 hij k hu hv
    · obtain ⟨q, y, g1, g2, g3⟩ := fr k hv
      exact h.dis i q u y h1 g1 (by omega) k hu g3
    · obtain ⟨q, y, g1, g2, g3⟩ := fr k hu
      exact h.dis j q v y h2 g1 (by omega) k hv g3
    · omega
  · rcases at_ i u hi with ⟨h1, _⟩ | ⟨rfl, _⟩
    · exact h.rng i u h1 k hk
    · obtain ⟨q, y, g1, g2, g3⟩ := fr k hk
      exact h.rng q y g1 k g3
theorem M_drop {F : Nat → Prop} {w0 w : World} {l : List It} (h : M F w0 w l) (n : Nat) : M F w0 w (l.drop n) := by
  have at_ : ∀ (i : Nat) (x : It), (l.drop n)[i]? = some x → l[n + i]? = some x := by
    intro i x hi
    rwa [List.getElem?_drop] at hi
  exact ⟨fun i x hi => h.all _ x (at_ i x hi), fun i j x y hi hj hij => h.dis _ _ x y (at_ i x hi) (at_ j y hj) (by omega), fun i x hi => h.rng _ x (at_ i x hi), h.keep⟩
end
/-- A node. -/
structure Nd where
  h : Int
  r : List UInt8
  hr : r.length = 32
  v : ByteArray
def ne (x : Nd) : List Value := .int .i64 x.h :: (x.r.map bv ++ [.string x.v])
theorem ne_len (x : Nd) : (ne x).length = 34 := by unfold ne; simp [x.hr]
theorem encN : St.Enc 34 ne := by
  refine ⟨ne_len, fun x u hu => ?_⟩
  unfold ne at hu
  simp only [List.mem_append, List.mem_cons, List.mem_map, List.not_mem_nil, or_false] at hu
  rcases hu with rfl | ⟨y, _, rfl⟩ | rfl <;> rfl
abbrev nz : Array Value := (Value.int .i64 0 :: ((List.replicate 32 (0 : UInt8)).map bv ++ [Value.string ByteArray.empty])).toArray
theorem tyN : St.Ty 124 34 nz := ⟨⟨_, Try.underlying124, rfl⟩, by kernel_rfl, by kernel_rfl⟩
abbrev okI : List UInt8 → Prop := fun k => k.length = 32
abbrev Nds := List (List UInt8 × Nd)
abbrev Bhs := List (List UInt8 × (Value × List (List UInt8)))
def dN (N : Nds) : List (List UInt8 × Value) := N.map fun p => (p.1, .agg (ne p.2).toArray)
def dB (B : Bhs) : List (List UInt8 × Value) := B.map fun p => (p.1, p.2.1)
def dG (G : List (List UInt8)) : List (List UInt8 × Value) := G.map fun p => (p, .bool true)
/-- A row of ids that is never written again. -/
def RowIs (w : World) (v : Value) (l : List (List UInt8)) : Prop := (v = .slice none 0 0 ∧ l = []) ∨ ∃ g c, v = .slice (some ⟨g, 0, none⟩) l.length c ∧ At w (some ⟨g, 0, none⟩) l.length l ∧ l.length ≤ c ∧ c ≤ maxLen
theorem RowIs.of {w : World} {v : Value} {l : List (List UInt8)} (h : Ids.Own w v l) : RowIs w v l := by
  obtain ⟨a, c, e, hat, _⟩ := h.at
  obtain ⟨hl, h1 | ⟨g, cap, cur, rfl, _, hg, hn, hc, hsz, htk⟩⟩ := h.own
  · obtain ⟨rfl, h0⟩ := h1
    exact .inl ⟨rfl, List.eq_nil_of_length_eq_zero (by simpa using h0)⟩
  · cases e
    exact .inr ⟨g, _, rfl, hat, hn, hc⟩
theorem RowIs.keep {w w' : World} {v : Value} {l : List (List UInt8)} (h : RowIs w v l) {S : Nat → Prop} (k : Keep S w w') (n : ∀ k, v.ownBlock = some k → ¬ S k) : RowIs w' v l := by
  rcases h with h | ⟨g, c, e, hat, hc⟩
  · exact .inl h
  · exact .inr ⟨g, c, e, hat.keep k (fun b off e2 => n b (by rw [e]; cases e2; rfl)), hc⟩
def beh (B : Bhs) : It := ⟨fun k => ∃ p ∈ B, p.2.1.ownBlock = some k, fun w => ∀ p ∈ B, RowIs w p.2.1 p.2.2, fun w w' S h k n p hp => (h p hp).keep k (fun j hj => n j ⟨p, hp, hj⟩)⟩
abbrev sc (bn bb bg : Nat) : Obj := .cells #[.map (some bn), .map (some bb), .map (some bg)] 96
abbrev sqit (b bn bb bg : Nat) (N : Nds) (B : Bhs) (G : List (List UInt8)) : List It := [blk b (sc bn bb bg), mp okI idv bn (dN N), mp okI idv bb (dB B), mp okI idv bg (dG G), beh B]
def foot (b bn bb bg : Nat) (B : Bhs) (k : Nat) : Prop := (k = b ∨ k = bn ∨ k = bb ∨ k = bg) ∨ ∃ p ∈ B, p.2.1.ownBlock = some k
/-- What a list is, as it lies. -/
structure SqAt (w : World) (b bn bb bg : Nat) (N : Nds) (B : Bhs) (G : List (List UInt8)) : Prop where
  all : M (foot b bn bb bg B) w w (sqit b bn bb bg N B G)
theorem foot_of {b bn bb bg : Nat} {N : Nds} {B : Bhs} {G : List (List UInt8)} {i : Nat} {x : It} (hi : (sqit b bn bb bg N B G)[i]? = some x) {k : Nat} (hk : x.foot k) : foot b bn bb bg B k := by
  match i, hi with
  | 0, hi => cases hi; exact .inl (.inl hk)
  | 1, hi => cases hi; exact .inl (.inr (.inl hk))
  | 2, hi => cases hi; exact .inl (.inr (.inr (.inl hk)))
  | 3, hi => cases hi; exact .inl (.inr (.inr (.inr hk)))
  | 4, hi => cases hi; exact .inr hk
theorem mkS {F : Nat → Prop} {w0 w : World} {b bn bb bg : Nat} {N : Nds} {B : Bhs} {G : List (List UInt8)} (h : M F w0 w (sqit b bn bb bg N B G)) : SqAt w b bn bb bg N B G :=
  ⟨⟨h.all, h.dis, fun i x hi k hk => ⟨.inr (foot_of hi hk), (h.rng i x hi k hk).2⟩, Keep.refl _ _⟩⟩
/-- A list as one thing among others. -/
def sqI (b bn bb bg : Nat) (N : Nds) (B : Bhs) (G : List (List UInt8)) : It := ⟨foot b bn bb bg B, fun w => SqAt w b bn bb bg N B G, fun w w' S h k n =>
  ⟨⟨fun i x hi => x.stable w w' S (h.all.all i x hi) k (fun j hj => n j (foot_of hi hj)), h.all.dis, fun i x hi j hj => ⟨.inr (foot_of hi hj), Nat.lt_of_lt_of_le (h.all.rng i x hi j hj).2 k.size⟩, Keep.refl _ _⟩⟩⟩
section
variable {w w' : World} {b bn bb bg : Nat} {N : Nds} {B : Bhs} {G : List (List UInt8)}
theorem SqAt.calm (h : SqAt w b bn bb bg N B G) (k : Keep (fun _ => False) w w') : SqAt w' b bn bb bg N B G := (sqI b bn bb bg N B G).stable w w' _ h k (fun _ _ h => h)
theorem SqAt.cells (h : SqAt w b bn bb bg N B G) : w.cell? ⟨b, 0, none⟩ = some (.map (some bn)) ∧ w.cell? ⟨b, 1, none⟩ = some (.map (some bb)) ∧ w.cell? ⟨b, 2, none⟩ = some (.map (some bg)) :=
  ⟨h.all.cell 0 rfl 0 rfl, h.all.cell 0 rfl 1 rfl, h.all.cell 0 rfl 2 rfl⟩
end
/-- What a call makes of it. -/
structure STo (w w' : World) (b bn bb bg : Nat) (B : Bhs) (N' : Nds) (B' : Bhs) (G' : List (List UInt8)) : Prop where
  sq : SqAt w' b bn bb bg N' B' G'
  keep : Keep (foot b bn bb bg B) w w'
  foot : ∀ k, foot b bn bb bg B' k → foot b bn bb bg B k ∨ (w.heap.size ≤ k ∧ k < w'.heap.size)
theorem M.sto {F : Nat → Prop} {w0 w w' : World} {it : List It} (h : M F w0 w it) (i : Nat) {b bn bb bg : Nat} {N N' : Nds} {B B' : Bhs} {G G' : List (List UInt8)} (hi : it[i]? = some (sqI b bn bb bg N B G)) (t : STo w w' b bn bb bg B N' B' G') : M F w0 w' (it.set i (sqI b bn bb bg N' B' G')) :=
  h.upd i hi t.keep (fun _ h => h) (y := sqI b bn bb bg N' B' G') t.sq t.foot
theorem STo.of {w w' : World} {b bn bb bg : Nat} {B : Bhs} {N' : Nds} {B' : Bhs} {G' : List (List UInt8)} (h : M (Sq.foot b bn bb bg B) w w' (sqit b bn bb bg N' B' G')) : STo w w' b bn bb bg B N' B' G' := by
  refine ⟨mkS h, h.keep, fun k hk => ?_⟩
  have : (w.heap.size ≤ k ∨ Sq.foot b bn bb bg B k) ∧ k < w'.heap.size := by
    rcases hk with (hk | hk | hk | hk) | hk
    · exact h.rng 0 _ rfl k hk
    · exact h.rng 1 _ rfl k hk
    · exact h.rng 2 _ rfl k hk
    · exact h.rng 3 _ rfl k hk
    · exact h.rng 4 _ rfl k hk
  rcases this.1 with h1 | h1
  · exact .inr ⟨h1, this.2⟩
  · exact .inl h1
theorem map_nil {T K E : TypeId} (hT : Try.prog.underlying T = some (.map K E)) (m : Option Nat) (w : World) : Sem.run Try.prog (binOp .eql T (.map m) (.map none)) w = .ok (.bool m.isNone) w := by
  have h := run_equal_map_nil (P := Try.prog) w T K E m hT
  have e : binOp .eql T (.map m) (.map none) = (do pure (.bool (← Op.equal T (.map m) (.map none)))) := rfl
  rw [e, Sem.run_bind, h]
  rfl
set_option maxRecDepth 100000 in
theorem snone (w : World) (b bn bb bg : Nat) (N : Nds) (B : Bhs) (G : List (List UInt8)) (h : SqAt w b bn bb bg N B G) : Calls Try.prog 52 #[.pointer (some ⟨b, 0, none⟩)] w fun e w' => e = .returned (.bool false) ∧ w' = w := by
  obtain ⟨c0, c1, c2⟩ := h.cells
  clear h
  have hcmp := map_nil Try.underlying93 (some bn)
  go_enter Try.func52, Try.ntmps52
  go_wp2
  go_ret
  exact ⟨rfl, rfl⟩
/-- One that nobody made. -/
def Zp (w : World) (p : Value) : Prop := p = .pointer none ∨ ∃ b, p = .pointer (some ⟨b, 0, none⟩) ∧ w.cell? ⟨b, 0, none⟩ = some (.map none)
set_option maxRecDepth 100000 in
theorem znone (w : World) (p : Value) (h : Zp w p) : Calls Try.prog 52 #[p] w fun e w' => e = .returned (.bool true) ∧ w' = w := by
  rcases h with rfl | ⟨b, rfl, c0⟩
  · go_enter Try.func52, Try.ntmps52
    go_wp2
    go_ret
    exact ⟨rfl, rfl⟩
  · have hcmp := map_nil Try.underlying93 none
    go_enter Try.func52, Try.ntmps52
    go_wp2
    go_ret
    exact ⟨rfl, rfl⟩
set_option maxRecDepth 100000 in
theorem snew (w : World) : Calls Try.prog 13 #[] w fun e w' => ∃ b bn bb bg, e = .returned (.pointer (some ⟨b, 0, none⟩)) ∧ M (fun _ => False) w w' [sqI b bn bb bg [] [] []] := by
  have HM : Hid (M (fun _ => False) w w []) := M.start _ w
  go_enter Try.func13, Try.ntmps13
  go_wp2_with (first | (refine Mp.wl_make rfl rfl (by (try simp only [World.size_alloc]); rfl) ?_; have HM : Hid _ := M.newMap HM.out okI idv (by (try simp only [World.size_alloc]); rfl); simp only [Act.put, List.setIfInBounds_toArray, List.set_cons_zero, List.set_cons_succ]))
  go_ret
  have HM := (HM.out.alloc (sc w.heap.size (w.heap.size + 1) (w.heap.size + 1 + 1)) (by simp only [World.size_alloc]; rfl)).add (x := beh []) (Keep.refl _ _) (fun p hp => by cases hp) (fun k ⟨p, hp, _⟩ => by cases hp)
  have HM := HM.sub (sqit (w.heap.size + 1 + 1 + 1) w.heap.size (w.heap.size + 1) (w.heap.size + 1 + 1) [] [] []) [3, 0, 1, 2, 4] (by decide) rfl
  refine ⟨_, _, _, _, rfl, pack (l := []) HM _ (mkS HM) (fun k hk => ?_)⟩
  rcases hk with (hk | hk | hk | hk) | hk
  · exact ⟨0, _, rfl, hk⟩
  · exact ⟨1, _, rfl, hk⟩
  · exact ⟨2, _, rfl, hk⟩
  · exact ⟨3, _, rfl, hk⟩
  · exact ⟨4, _, rfl, hk⟩
set_option maxRecDepth 100000 in
theorem slen (w : World) (b bn bb bg : Nat) (N : Nds) (B : Bhs) (G : List (List UInt8)) (h : SqAt w b bn bb bg N B G) : Calls Try.prog 42 #[.pointer (some ⟨b, 0, none⟩)] w fun e w' => e = .returned (.int .i64 N.length) ∧ w' = w := by
  obtain ⟨c0, c1, c2⟩ := h.cells
  have HS : Hid _ := h
  clear h
  go_enter Try.func42, Try.ntmps42
  go_wp2_with (first | (go_at_call 52; refine (snone _ b bn bb bg N B G HS.out).mono ?_; rintro e w1 ⟨rfl, rfl⟩) | (refine Mp.wl_len Try.underlying93 rfl rfl rfl (HS.out.all.get 1 rfl) (n := N.length) (by unfold dN; rw [List.length_map]) ?_; simp only [Act.put, List.setIfInBounds_toArray, List.set_cons_zero, List.set_cons_succ]))
  go_ret
  exact ⟨rfl, rfl⟩
end Sq
end Go.Proofs.Ytgpimeobkacniaa
