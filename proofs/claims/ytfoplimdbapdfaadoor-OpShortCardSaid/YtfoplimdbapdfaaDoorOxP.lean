/-
  petrellaw07's awake; an operation that came in.
-/
import Derived.Test.YtfoplimdbapdfaaDoorOxM
import Derived.Test.YtfoplimdbapdfaaDoorOxN
import Derived.Test.YtfoplimdbapdfaaDoorGOp
set_option linter.unusedVariables false
set_option linter.unusedSimpArgs false
namespace Go.Proofs.YtfoplimdbapdfaaDoor
open Go.RowKit
namespace Ox
open Oct Ids
open Mem (M blk rd xr ids)
open Go.ChangeShapes Go.WideShapes Go.ChangeAt

def S5 : ByteArray := ⟨#[1, 128, 0, 0, 1]⟩
theorem of_some {w w' : World} {e : Ending} {R : OO} (h : OfPost R w e w') : ∃ va vc, e = .returned (.tuple #[.agg (oc R.K R.N R.Y R.V R.r (.slice va R.l.length vc)).toArray, .int .i64 R.e]) ∧ Own w' (.slice va R.l.length vc) R.l ∧ Keep (fun _ => False) w w' ∧ ∀ k, (Value.slice va R.l.length vc).ownBlock = some k → w.heap.size ≤ k := by
  obtain ⟨v, h1, h2, h3, h4⟩ := h
  obtain ⟨va, vc, rfl, _, _⟩ := h2.at
  exact ⟨va, vc, h1, h2, h3, h4⟩
theorem ids_own {w : World} {va : Option Addr} {vc : Nat} {l : List (List UInt8)} (h : Own w (.slice va l.length vc) l) : At w va l.length l := by
  obtain ⟨a, c, e, hat, _⟩ := h.at
  cases e
  exact hat
theorem ofo_r (s : ByteArray) : (ofo s).r.length = 32 := by
  obtain ⟨o, ho⟩ : ∃ o, ofo s = o := ⟨_, rfl⟩
  rw [ho]
  unfold ofo at ho
  simp only at ho
  split at ho
  · subst ho; rfl
  · split at ho
    · subst ho; rfl
    · unfold fin at ho
      repeat' split at ho
      all_goals
        subst ho
        first
          | rfl
          | exact rdR_len _ _ _ _
set_option maxRecDepth 100000 in
set_option maxHeartbeats 1000000 in
theorem awake_true (w : World) (hT : TabP w) : Calls Tryd.prog 11 #[] w fun e w' => e = .returned (.bool true) ∧ Keep (fun _ => False) w w' := by
  have e1 : pv 1 1 ByteArray.empty ByteArray.empty Z32 0 [] = S5 := by decide +kernel
  have e2 : ck 1 1 ByteArray.empty ByteArray.empty Z32 0 [] = 0 := by decide +kernel
  have e3 : (ofo S5).e = 0 := by decide +kernel
  have e4 : (ofo S5).N = 1 := by decide +kernel
  have e5 : (ofo S5).r.length = 32 := by decide +kernel
  have HT : Hid (TabP w) := hT
  have Hp : Hid (∀ w, TabP w → _) := fun w hT => put_any w hT 1 1 ByteArray.empty ByteArray.empty Z32 none 0 0 [] rfl ⟨rfl, by simp, Nat.zero_le _, .inl rfl⟩
  have Ho : Hid (∀ w, TabP w → Calls Tryd.prog 12 #[.string S5] w fun e w' => ∃ va vc, e = .returned (.tuple #[.agg (oc (ofo S5).K (ofo S5).N (ofo S5).Y (ofo S5).V (ofo S5).r (.slice va (ofo S5).l.length vc)).toArray, .int .i64 (ofo S5).e]) ∧ Own w' (.slice va (ofo S5).l.length vc) (ofo S5).l ∧ Keep (fun _ => False) w w' ∧ ∀ k, (Value.slice va (ofo S5).l.length vc).ownBlock = some k → w.heap.size ≤ k) := fun w hT => (of_any_op w hT S5 (by decide)).mono fun e w' h => of_some h
  rw [e1, e2] at Hp
  rw [e3, e4] at Ho
  have Hr : Hid _ := e5
  have q1 : S5.toList = [1, 128, 0, 0, 1] := by decide +kernel
  clear e1 e2 e3 e4 e5 hT
  generalize (ofo S5).K = K at Ho
  generalize (ofo S5).Y = Y at Ho
  generalize (ofo S5).V = V at Ho
  generalize (ofo S5).r = r at Ho Hr
  generalize (ofo S5).l = l at Ho
  go_enter Tryd.func11, Tryd.ntmps11
  go_wp2_with (first | (go_at_call 15; refine (Hp.out _ HT.out).mono ?_; rintro e w1 ⟨rfl, k1⟩; have K1 : Hid _ := k1; clear k1) | (go_at_call 12; refine (Ho.out _ (HT.out.calm K1.out)).mono ?_; rintro e w2 ⟨va, vc, rfl, _, k1, _⟩; have K2 : Hid _ := k1; clear k1) | (refine St.wl_alloc tyO rfl rfl (by (try simp only [World.size_alloc]); rfl) ?_; simp only [Act.put, List.setIfInBounds_toArray, List.set_cons_zero, List.set_cons_succ]) | (refine St.wl_buildV (T := 27) rfl rfl (cs := (oc 1 1 ByteArray.empty ByteArray.empty Z32 (.slice none 0 0)).toArray) (by kernel_rfl) ?_; simp only [Act.put, List.setIfInBounds_toArray, List.set_cons_zero, List.set_cons_succ]) | (refine St.wl_storeN tyO rfl rfl rfl rfl rfl (by (try simp only [World.size_alloc])) (show _ = Value.agg (oc K 1 Y V r (.slice va l.length vc)).toArray from rfl) (oc_sz Hr.out) (oc_sz rfl) (oc_one _ _ _ _ _ _ _ _) ?_; have HE : Hid _ := OAt.new (K := K) (N := 1) (Y := Y) (V := V) (rv := .slice va l.length vc) w2 Hr.out; obtain ⟨g0, g1, g2, g3, g36⟩ := HE.out.cells))
  go_ret
  exact ⟨rfl, (K1.out.trans K2.out).alloc _⟩
/-- An operation that came in. -/
abbrev OOp := Int × Int × ByteArray × ByteArray × List UInt8 × Opn.Sl (List UInt8) × Unit
def layO (x : OOp) : List Value := oc x.1 x.2.1 x.2.2.1 x.2.2.2.1 x.2.2.2.2.1 (.slice x.2.2.2.2.2.1.a x.2.2.2.2.2.1.len x.2.2.2.2.2.1.cap)
def factO (W : World) (x : OOp) : Prop := x.2.2.2.2.1.length = 32 ∧ At W x.2.2.2.2.2.1.a x.2.2.2.2.2.1.len x.2.2.2.2.2.1.els
theorem rdIdl : Opn.Rd Tryd.prog 25 1 (fun x : Opn.Sl (List UInt8) => [x.val]) (Opn.SlAt 32 (fun x => x.map bv) fun _ x => x.length = 32) (fun x => (x.els.map fun _ => 32).sum + 1) :=
  Opn.rd_slice Tryd.underlying25 (by kernel_rfl) (by omega) Opn.rd_id
theorem at_of {W : World} {s : Opn.Sl (List UInt8)} (h : Opn.SlAt 32 (fun x => x.map bv) (fun _ x => x.length = 32) W s) : At W s.a s.len s.els := by
  obtain ⟨h1, h2, h3, h4⟩ := h
  refine ⟨h1, fun x hx => ?_, Nat.le_trans h2 h3, ?_⟩
  · rcases h4 with h4 | ⟨b, off, _, _, hel⟩
    · rw [h4] at h1
      rw [List.eq_nil_of_length_eq_zero h1] at hx
      cases hx
    · obtain ⟨i, hi⟩ := List.getElem?_of_mem hx
      exact (hel i x hi).2
  · exact h4.imp id fun ⟨b, off, ha, hb, hel⟩ => ⟨b, off, ha, hb, fun i x hi => (hel i x hi).1⟩
theorem at_leaves {W W' : World} {a : Option Addr} {n : Nat} {l : List (List UInt8)} (h1 : At W a n l) (hl : ∀ (b : Nat) (o : Obj), W.heap[b]? = some o → W'.heap[b]? = some o) (hr : ∀ (b i : Nat) (cs : List Value), W.rangeAt b i cs → W'.rangeAt b i cs) : At W' a n l := by
  refine ⟨h1.len, h1.size, h1.most, h1.lay.imp id ?_⟩
  rintro ⟨b, off, ha, hb, hel⟩
  have ho := hl b W.heap[b] (Array.getElem?_eq_getElem hb)
  exact ⟨b, off, ha, (Array.getElem?_eq_some_iff.1 ho).1, fun i x hi => hr _ _ _ (hel i x hi)⟩
theorem rdO : Opn.Rd Tryd.prog 27 37 layO factO (fun x => x.2.2.1.size) := by
  have h := Opn.rd_struct (T := 27) Tryd.underlying27 (by kernel_rfl) (Opn.rdf_cons Opn.rd_i rfl (Opn.rdf_cons Opn.rd_i rfl (Opn.rdf_cons Opn.rd_s rfl (Opn.rdf_cons Opn.rd_s rfl (Opn.rdf_cons Opn.rd_id rfl (Opn.rdf_cons rdIdl rfl Opn.rdf_nil))))))
  refine ⟨h.size, fun W x hx => oc_len _ _ _ _ _ _ hx.1, fun H enc W fuel cs y hy => ?_, fun W W' x hl hx => ?_⟩
  · obtain ⟨x, e, ⟨f0, f1, f2, f3, f4, f5, _⟩, b⟩ := h.op H enc W fuel cs y hy
    refine ⟨x, by rw [e]; simp [layO, oc, Opn.Sl.val], ⟨f4, at_of f5⟩, ?_⟩
    have b' : 1 + (1 + (x.2.2.1.size + 1 + (x.2.2.2.1.size + 1 + (32 + ((x.2.2.2.2.2.1.els.map fun _ => 32).sum + 1 + 0))))) + 1 ≤ Rows.uptoBulk y.1 := b
    omega
  · exact ⟨hx.1, at_leaves hx.2 (fun b o hb => hl b o hb) (fun b i cs hc => hl.range hc)⟩
end Ox
end Go.Proofs.YtfoplimdbapdfaaDoor
