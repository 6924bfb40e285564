/-
  Opening what comes in: a reading of an argument gives typed Lean data and the cells that hold it. And the row's end for a law that writes nothing that was there. A slice that came in, opened. A struct that came in, opened; loads of structs in drawn regions.
-/
import Derived.Test.YthllhjdaknmlbaaDoorBase
import Derived.Test.YthllhjdaknmlbaaDoorText
import Derived.Test.YthllhjdaknmlbaaDoorRows
import Derived.ProofKit
import Derived.OpenShut
import Derived.JoinedCond
import Derived.Deep.Slices
import Derived.Test.YthllhjdaknmlbaaDoorGId
import Derived.Test.YthllhjdaknmlbaaDoorGTx
set_option linter.unusedVariables false
set_option linter.unusedSimpArgs false

namespace Go.Proofs.YthllhjdaknmlbaaDoor
open Go.RowKit Go.ChangeShapes Go.WideShapes Go.ChangeAt
namespace Opn

theorem bulk_pos {H : Type} (d : DataW H) : 1 ≤ Rows.uptoBulk d := by
  cases d with
  | lit l => cases l <;> simp [Rows.uptoBulk]
  | nil => simp [Rows.uptoBulk]
  | ptr d => simp [Rows.uptoBulk]
  | slice elems spare => simp [Rows.uptoBulk]
  | agg parts => simp [Rows.uptoBulk]
  | iface t d => simp [Rows.uptoBulk]
  | map entries => simp [Rows.uptoBulk]
  | held h => simp [Rows.uptoBulk]

theorem bulkAll_append {H : Type} : ∀ (l m : List (DataW H)), Rows.uptoBulkAll (l ++ m) = Rows.uptoBulkAll l + Rows.uptoBulkAll m
  | [], m => by simp [Rows.uptoBulkAll]
  | d :: l, m => by simp [Rows.uptoBulkAll, bulkAll_append l m]; omega

/-- How values of a type are read: n cells, laid by 'lay' of typed data; 'fact': what else holds in memory; 'bulk': how much it is at least. -/
structure Rd (P : Program) (T : TypeId) (n : Nat) {α : Type} (lay : α → List Value) (fact : World → α → Prop) (bulk : α → Nat) : Prop where
  size : P.cellsOf T = n
  len : ∀ W x, fact W x → (lay x).length = n
  op : ∀ (H : Type) (enc : TypeId × Value → H) (W : World) (fuel : Nat) (cs : List Value) (y : DataW H × List MemPlace), DataW.trod enc P W 0 (fun _ => true) true fuel T cs = some y → ∃ x, cs = lay x ∧ fact W x ∧ bulk x ≤ Rows.uptoBulk y.1
  mono : ∀ W W' x, Txt.Le W W' → fact W x → fact W' x

section
variable {P : Program} {T : TypeId}
theorem rd_int {k : IntKind} (hT : P.underlying T = some (.int k)) (hc : P.cellsOf T = 1) : Rd P T 1 (fun x : Int => [.int k x]) (fun _ x => (Lit.int k x).wf = true) (fun _ => 1) :=
  ⟨hc, fun _ _ _ => rfl, fun H enc W fuel cs y h => by
    obtain ⟨x, rfl, rfl, hw⟩ := DataW.trod_int hT h
    exact ⟨x, rfl, hw, by simp [Rows.uptoBulk]⟩, fun _ _ _ _ h => h⟩
theorem rd_bool (hT : P.underlying T = some .bool) (hc : P.cellsOf T = 1) : Rd P T 1 (fun x : Bool => [.bool x]) (fun _ _ => True) (fun _ => 1) :=
  ⟨hc, fun _ _ _ => rfl, fun H enc W fuel cs y h => by
    obtain ⟨x, rfl, rfl⟩ := DataW.trod_bool hT h
    exact ⟨x, rfl, trivial, by simp [Rows.uptoBulk]⟩, fun _ _ _ _ h => h⟩
theorem rd_string (hT : P.underlying T = some .string) (hc : P.cellsOf T = 1) : Rd P T 1 (fun x : ByteArray => [.string x]) (fun _ x => x.size ≤ maxLen) (fun x => x.size + 1) :=
  ⟨hc, fun _ _ _ => rfl, fun H enc W fuel cs y h => by
    obtain ⟨x, rfl, rfl, hs⟩ := DataW.trod_string hT h
    exact ⟨x, rfl, hs, by simp [Rows.uptoBulk]⟩, fun _ _ _ _ h => h⟩

/-- An array of bytes. -/
theorem rd_bytes {n : Nat} {e : TypeId} (hT : P.underlying T = some (.array n e)) (he : P.underlying e = some (.int .u8)) (hce : P.cellsOf e = 1) (hc : P.cellsOf T = n) :
    Rd P T n (fun x : List UInt8 => x.map fun c => Value.int .u8 (c.toNat : Int)) (fun _ x => x.length = n) (fun _ => n) :=
  ⟨hc, fun _ x h => by simpa using h, fun H enc W fuel cs y h => by
    obtain ⟨xs, m, rfl, rfl, hl, hxs, hel⟩ := DataW.trod_array hT h
    rw [hc] at hl
    have key : ∀ i, i < n → ∃ c : UInt8, cs[i]? = some (.int .u8 (c.toNat : Int)) ∧ ∃ p, xs[i]? = some (.lit (.int .u8 (c.toNat : Int)), p) := by
      intro i hi
      have h1 := hel i hi
      rw [hce, Nat.mul_one] at h1
      have hi2 : i < xs.length := by omega
      rw [List.getElem?_eq_getElem hi2] at h1
      obtain ⟨v, hv, hx, hw⟩ := DataW.trod_int he h1
      have hb : 0 ≤ v ∧ v < 256 := by
        simp [Lit.wf, IntKind.min, IntKind.max, IntKind.signed, IntKind.bits] at hw
        omega
      have e1 : ((UInt8.ofNat v.toNat).toNat : Int) = v := by rw [UInt8.toNat_ofNat']; omega
      refine ⟨UInt8.ofNat v.toNat, ?_, [], ?_⟩
      · rw [e1]
        have : (cs.drop i).take 1 = [cs[i]] := by rw [List.drop_eq_getElem_cons (by omega)]; rfl
        rw [this] at hv
        rw [List.getElem?_eq_getElem (by omega)]
        simpa using hv
      · rw [e1, List.getElem?_eq_getElem hi2, hx]
    obtain ⟨f, hf⟩ := Deep.choose_lt key
    refine ⟨(List.range n).map f, ?_, by simp, ?_⟩
    · apply List.ext_getElem?
      intro i
      by_cases hi : i < n
      · rw [(hf i hi).1]; simp [hi]
      · rw [List.getElem?_eq_none (by omega), List.getElem?_eq_none (by simp; omega)]
    · have : ∀ (l : List (DataW H)), l.length ≤ Rows.uptoBulkAll l := by
        intro l
        induction l with
        | nil => simp
        | cons d l ih => simp only [List.length_cons, Rows.uptoBulkAll]; have := bulk_pos d; omega
      have h2 := this (xs.map (·.1))
      simp only [List.length_map] at h2
      simp only [Rows.uptoBulk]
      omega, fun _ _ _ _ h => h⟩

/-- The fields from 'off' on. -/
structure RdF (P : Program) (fs : List Field) (off n : Nat) {α : Type} (lay : α → List Value) (fact : World → α → Prop) (bulk : α → Nat) : Prop where
  len : ∀ W x, fact W x → (lay x).length = n
  op : ∀ (H : Type) (enc : TypeId × Value → H) (W : World) (fuel : Nat) (cs : List Value) (ys : List (DataW H × List MemPlace)), ys.length = fs.length →
    (∀ (i : Nat) (f : Field), fs[i]? = some f → DataW.trod enc P W 0 (fun _ => true) true fuel f.type ((cs.drop f.offset).take (P.cellsOf f.type)) = ys[i]?) →
    ∃ x, (cs.drop off).take n = lay x ∧ fact W x ∧ bulk x ≤ Rows.uptoBulkAll (ys.map (·.1))
  mono : ∀ W W' x, Txt.Le W W' → fact W x → fact W' x

theorem rdf_nil {off : Nat} : RdF P [] off 0 (fun _ : Unit => []) (fun _ _ => True) (fun _ => 0) :=
  ⟨fun _ _ _ => rfl, fun _ _ _ _ _ _ _ _ => ⟨(), by simp, trivial, Nat.zero_le _⟩, fun _ _ _ _ h => h⟩
theorem rdf_cons {f : Field} {fs : List Field} {off n0 n : Nat} {α β : Type} {lay0 : α → List Value} {lay : β → List Value} {fact0 : World → α → Prop} {fact : World → β → Prop} {bulk0 : α → Nat} {bulk : β → Nat}
    (h0 : Rd P f.type n0 lay0 fact0 bulk0) (hf : f.offset = off) (h : RdF P fs (off + n0) n lay fact bulk) :
    RdF P (f :: fs) off (n0 + n) (fun x : α × β => lay0 x.1 ++ lay x.2) (fun W x => fact0 W x.1 ∧ fact W x.2) (fun x => bulk0 x.1 + bulk x.2) :=
  ⟨fun W x hx => by rw [List.length_append, h0.len W _ hx.1, h.len W _ hx.2], fun H enc W fuel cs ys hl hy => by
    cases ys with
    | nil => simp at hl
    | cons y ys =>
      have h1 := hy 0 f rfl
      rw [hf, h0.size] at h1
      obtain ⟨x0, e0, f0, b0⟩ := h0.op H enc W fuel _ y (by simpa using h1)
      obtain ⟨x, e, fx, bx⟩ := h.op H enc W fuel cs ys (by simpa using hl) (fun i g hg => by simpa using hy (i + 1) g (by simpa using hg))
      refine ⟨(x0, x), ?_, ⟨f0, fx⟩, by simp only [List.map_cons, Rows.uptoBulkAll]; omega⟩
      rw [← e0, ← e, List.take_add, List.drop_drop], fun W W' x hl hx => ⟨h0.mono W W' _ hl hx.1, h.mono W W' _ hl hx.2⟩⟩
theorem rd_struct {fs : List Field} {n : Nat} {α : Type} {lay : α → List Value} {fact : World → α → Prop} {bulk : α → Nat} (hT : P.underlying T = some (.struct fs.toArray)) (hc : P.cellsOf T = n) (h : RdF P fs 0 n lay fact bulk) :
    Rd P T n lay fact (fun x => bulk x + 1) :=
  ⟨hc, h.len, fun H enc W fuel cs y hy => by
    obtain ⟨xs, m, rfl, rfl, hl, hxs, hel⟩ := DataW.trod_struct hT hy
    obtain ⟨x, e, fx, bx⟩ := h.op H enc W m cs xs (by simpa using hxs) (fun i f hf => hel i f (by simpa using hf))
    rw [hc] at hl
    refine ⟨x, ?_, fx, by simp only [Rows.uptoBulk]; omega⟩
    rw [← e, List.drop_zero, List.take_of_length_le (by omega)], h.mono⟩

/-- A slice that came in. -/
structure Sl (β : Type) where
  a : Option Addr
  len : Nat
  cap : Nat
  els : List β
def Sl.val {β : Type} (s : Sl β) : Value := .slice s.a s.len s.cap
/-- Where its elements lie. -/
def SlAt {β : Type} (n : Nat) (lay : β → List Value) (fact : World → β → Prop) (W : World) (s : Sl β) : Prop :=
  s.els.length = s.len ∧ s.len ≤ s.cap ∧ s.cap ≤ maxLen ∧ (s.len = 0 ∨ ∃ b off, s.a = some ⟨b, off, none⟩ ∧ b < W.heap.size ∧ ∀ i x, s.els[i]? = some x → W.rangeAt b (off + i * n) (lay x) ∧ fact W x)

theorem range_of_cells {W : World} {a : Addr} {n : Nat} {cs : List Value} (h : W.cells? 0 a n = some cs) (hn : 0 < n) : a = ⟨a.block, a.off, none⟩ ∧ W.rangeAt a.block a.off cs ∧ a.block < W.heap.size := by
  have hb := World.cells?_block h hn
  have h' := World.cells?_some h
  have hs : a.spot = none := by
    have h0 := h'.2.2 0 hn
    rw [show a.add 0 = a from by simp [Addr.add], List.getElem?_eq_getElem (by omega)] at h0
    cases hsp : a.spot with
    | none => rfl
    | some x =>
      unfold World.cell? at h0
      rw [hsp] at h0
      split at h0 <;> simp at h0
  obtain ⟨b, off, sp⟩ := a
  obtain rfl : sp = none := hs
  refine ⟨rfl, fun j v hj => ?_, hb⟩
  have hj' : j < n := by have := (List.getElem?_eq_some_iff.1 hj).1; omega
  have := h'.2.2 j hj'
  rw [Addr.add_mid] at this
  rw [this]; exact hj

theorem rd_slice {e : TypeId} {n : Nat} {β : Type} {lay : β → List Value} {fact : World → β → Prop} {bulk : β → Nat} (hT : P.underlying T = some (.slice e)) (hc : P.cellsOf T = 1) (hn : 0 < n) (h : Rd P e n lay fact bulk) :
    Rd P T 1 (fun x : Sl β => [x.val]) (SlAt n lay fact) (fun x => (x.els.map bulk).sum + 1) := by
  refine ⟨hc, fun _ _ _ => rfl, fun H enc W fuel cs y hy => ?_, fun W W' x hl hx => ?_⟩
  · rcases Deep.open_slice hT hy with ⟨rfl, rfl⟩ | ⟨a, len, cap, m, k, D, Pl, rfl, _, hlc, hcm, hm, rfl, hel⟩
    · exact ⟨⟨none, 0, 0, []⟩, rfl, ⟨rfl, Nat.le_refl _, Nat.zero_le _, .inl rfl⟩, by simp [Rows.uptoBulk]⟩
    · have hmc : m = cap := by simpa using hm
      subst hmc
      rw [h.size] at hel
      have key : ∀ i, i < len → ∃ x : β, (W.rangeAt (a.add (i * n)).block (a.add (i * n)).off (lay x) ∧ a.add (i * n) = ⟨(a.add (i * n)).block, (a.add (i * n)).off, none⟩ ∧ (a.add (i * n)).block < W.heap.size) ∧ fact W x ∧ bulk x ≤ Rows.uptoBulk (D i) := by
        intro i hi
        obtain ⟨cs', h1, h2⟩ := hel i (by omega)
        obtain ⟨x, e1, fx, bx⟩ := h.op H enc W k cs' (D i, Pl i) h2
        obtain ⟨r1, r2, r3⟩ := range_of_cells h1 hn
        exact ⟨x, ⟨by rw [← e1]; exact r2, r1, r3⟩, fx, bx⟩
      by_cases h0 : len = 0
      · subst h0
        refine ⟨⟨some a, 0, m, []⟩, rfl, ⟨rfl, Nat.zero_le _, hcm, .inl rfl⟩, ?_⟩
        have := bulk_pos (DataW.slice ((List.range 0).map D) ((List.range (m - 0)).map fun j => D (0 + j)))
        simpa using this
      · obtain ⟨x0, ⟨_, ha, hb⟩, _⟩ := key 0 (by omega)
        have ha0 : a.add (0 * n) = a := by simp [Addr.add]
        rw [ha0] at ha hb
        obtain ⟨b, off, sp⟩ := a
        obtain rfl : sp = none := by simpa using ha
        have : Nonempty β := ⟨x0⟩
        have : Inhabited β := ⟨x0⟩
        obtain ⟨f, hf⟩ := Deep.choose_lt key
        refine ⟨⟨some ⟨b, off, none⟩, len, m, (List.range len).map f⟩, rfl, ⟨by simp, hlc, hcm, .inr ⟨b, off, rfl, hb, fun i x hi => ?_⟩⟩, ?_⟩
        · have hi' : i < len := by have := (List.getElem?_eq_some_iff.1 hi).1; simpa using this
          have hx : f i = x := by simpa [hi'] using hi
          subst hx
          obtain ⟨⟨h1, _, _⟩, h2, _⟩ := hf i hi'
          rw [Addr.add_mid] at h1
          exact ⟨h1, h2⟩
        · have sumle : ∀ (l : List Nat), (∀ i ∈ l, bulk (f i) ≤ Rows.uptoBulk (D i)) → (l.map (fun i => bulk (f i))).sum ≤ Rows.uptoBulkAll (l.map D) := by
            intro l
            induction l with
            | nil => intro _; simp
            | cons i l ih =>
              intro hl
              simp only [List.map_cons, List.sum_cons, Rows.uptoBulkAll]
              have h1 := hl i (by simp)
              have h2 := ih (fun j hj => hl j (by simp [hj]))
              omega
          have := sumle (List.range len) (fun i hi => (hf i (by simpa using hi)).2.2)
          simp only [List.map_map, Rows.uptoBulk]
          have e : ((List.range len).map (bulk ∘ f)).sum = ((List.range len).map (fun i => bulk (f i))).sum := rfl
          omega
  · obtain ⟨h1, h2, h3, h4⟩ := hx
    refine ⟨h1, h2, h3, h4.imp id ?_⟩
    rintro ⟨b, off, ha, hb, hel⟩
    refine ⟨b, off, ha, ?_, fun i x hi => ⟨hl.range (hel i x hi).1, h.mono W W' x hl (hel i x hi).2⟩⟩
    have ho := hl b W.heap[b] (Array.getElem?_eq_getElem hb)
    exact (Array.getElem?_eq_some_iff.1 ho).1

/-! The row's end. -/
theorem trodAll_below {P : Program} {H : Type} {enc : TypeId × Value → H} (hl : laidOutB P = true) {W W' : World} (hb : Below W.heap.size W W') :
    ∀ {ts : List TypeId} {vs : List Value} {ds : List (DataW H)} {ps : List MemPlace}, (ts.all fun t => P.readableRec t && decide (t < P.types.size)) = true → (∀ x ∈ ps, x.block < W.heap.size) →
    DataW.TrodAll enc P W 0 (fun _ => true) true ts vs ds ps → DataW.TrodAll enc P W' 0 (fun b => decide (b < W.heap.size)) true ts vs ds ps
  | [], [], [], _, _, _, h => h
  | t :: ts, v :: vs, d :: ds, ps, ht, hp, h => by
    obtain ⟨p, q, h1, h2, rfl⟩ := h
    rw [List.all_cons, Bool.and_eq_true, Bool.and_eq_true, decide_eq_true_eq] at ht
    exact ⟨p, q, Below.trod hl ht.1.1 ht.1.2 h1 hb (fun x hx => hp x (by simp [hx])), trodAll_below hl hb ht.2 (fun x hx => hp x (by simp [hx])) h2, rfl⟩
  | [], [], _ :: _, _, _, _, h => h.elim
  | [], _ :: _, _, _, _, _, h => h.elim
  | _ :: _, [], _, _, _, _, h => h.elim
  | _ :: _, _ :: _, [], _, _, _, h => h.elim
end
/-- The row's post, of a law that has answered true and written nothing that was there. -/
theorem law_post {P : Program} {H : Type} {enc : TypeId × Value → H} {f : Func} {s : ChangeSpec} {W W' : World} {args : Array Value} {ds gs : List (DataW H)} {before : List MemPlace} {tb : TypeId}
    (hl : laidOutB P = true) (ht : (f.params.toList.all fun t => P.readableRec t && decide (t < P.types.size)) = true) (hr : f.resultTypes = #[tb]) (hb : P.underlying tb = some .bool) (hv : s.vars = [])
    (hs : s.fn H (ds ++ gs) = { results := [.lit (.bool true)], args := ds }) (hW : DataW.Whole enc P f.params.toList s.vars false W args.toList ds gs before) (bel : Below W.heap.size W W') :
    s.post enc P f false true false false W args (.bool true) W' := by
  have hW' := hW
  obtain ⟨p, q, hA, hV, rfl, _, _⟩ := hW
  have hlt : ∀ x ∈ p, x.block < W.heap.size := fun x hx => hW'.lt x (List.mem_append_left _ hx)
  refine ⟨ds, gs, p ++ q, [], p, [], hW', ?_, ?_, ?_, bel.frame _, fun h => by cases h⟩
  · rw [hs, hr]
    exact trodAll_mk1 (shut_bool hb _)
  · rw [hs]
    exact trodAll_below hl bel ht hlt hA
  · rw [hs, hv]; rfl
end Opn
end Go.Proofs.YthllhjdaknmlbaaDoor


namespace Go.Proofs.YthllhjdaknmlbaaDoor
open Go.RowKit Go.ChangeShapes Go.WideShapes Go.ChangeAt
namespace Opn
theorem open_sl {P : Program} {T e : TypeId} {n : Nat} {β : Type} {lay : β → List Value} {fact : World → β → Prop} {bk : Sl β → Nat} {H : Type} {enc : TypeId × Value → H} {W : World} {base : Nat} {v : Value} {d : DataW H} {p : List MemPlace}
    (hT : P.underlying T = some (.slice e)) (hr : Rd P T 1 (fun x : Sl β => [x.val]) (SlAt n lay fact) bk) (hval : Value.okWide P W .any base T v)
    (h : DataW.Trod enc P W 0 (fun _ => true) true T v d p) : ∃ x : Sl β, v = .slice x.a x.len x.cap ∧ SlAt n lay fact W x ∧ bk x ≤ Rows.uptoBulk d := by
  obtain ⟨a, len, cap, rfl⟩ := okWide_slice hT hval
  obtain ⟨fuel, hf⟩ := h
  obtain ⟨x, e, h1, h2⟩ := hr.op H enc W fuel _ _ hf
  refine ⟨x, ?_, h1, h2⟩
  simpa [Value.cells, Sl.val] using e
end Opn
end Go.Proofs.YthllhjdaknmlbaaDoor


namespace Go.Proofs.YthllhjdaknmlbaaDoor
open Go.RowKit Go.ChangeShapes Go.WideShapes Go.ChangeAt
namespace Opn
theorem open_st {P : Program} {T : TypeId} {fs : Array Field} {n : Nat} {β : Type} {lay : β → List Value} {fact : World → β → Prop} {bk : β → Nat} {H : Type} {enc : TypeId × Value → H} {W : World} {base : Nat} {v : Value} {d : DataW H} {p : List MemPlace}
    (hT : P.underlying T = some (.struct fs)) (hr : Rd P T n lay fact bk) (hval : Value.okWide P W .any base T v)
    (h : DataW.Trod enc P W 0 (fun _ => true) true T v d p) : ∃ x : β, v = .agg (lay x).toArray ∧ fact W x ∧ bk x ≤ Rows.uptoBulk d := by
  obtain ⟨cs, rfl, _⟩ := okWide_struct hT hval
  obtain ⟨fuel, hf⟩ := h
  obtain ⟨x, e, h1, h2⟩ := hr.op H enc W fuel _ _ hf
  refine ⟨x, ?_, h1, h2⟩
  rw [← e]
  simp [Value.cells]
theorem rd_id : Rd Tryd.prog 24 32 (fun x : List UInt8 => x.map Oct.bv) (fun _ x => x.length = 32) (fun _ => 32) :=
  rd_bytes Tryd.underlying24 Tryd.underlying5 (by kernel_rfl) (by kernel_rfl)
theorem rd_i : Rd Tryd.prog 3 1 (fun x : Int => [Value.int .i64 x]) (fun _ x => (Lit.int .i64 x).wf = true) (fun _ => 1) := rd_int Tryd.underlying3 (by kernel_rfl)
theorem rd_s : Rd Tryd.prog 9 1 (fun x : ByteArray => [Value.string x]) (fun _ x => x.size ≤ maxLen) (fun x => x.size + 1) := rd_string Tryd.underlying9 (by kernel_rfl)
end Opn
namespace Txt
section
variable {P : Program} {ops : Array Oper} {S : World → Prop}
variable {Q : Act → World → Prop} {o : Oper} {rest : List Oper} {ts : List Nat} {a : Act} {w : World} {v : Value}
theorem tl_rowN {n : Nat} (hw : Region.wanted o (yielded ops a.tmps) = true) {ty : TypeId} {x : Operand} {b i : Nat} {cs : List Value} (ho : o.op = .load ty x) (he : a.eval x = .pointer (some ⟨b, i, none⟩)) (hc : w.rangeAt b i cs) (ht : rowTy P ty n = true) (hn : cs.length = n)
    (k : wpTG P ops S Q rest ts (a.put o.dst (.agg cs.toArray)) w) : wpTG P ops S Q (o :: rest) (1 :: ts) a w :=
  tl_loadRow hw ho he hc (by rw [hn]; exact ht) k
theorem tl_rowSN {n : Nat} (hw : Region.wanted o (yielded ops a.tmps) = true) {ty : TypeId} {x : Operand} {b i : Nat} {cs : List Value} (ho : o.op = .load ty x) (he : a.eval x = .pointer (some ⟨b, i, none⟩)) (hc : ∀ w2, S w2 → w2.rangeAt b i cs) (ht : rowTy P ty n = true) (hn : cs.length = n)
    (k : wpTG P ops S Q rest ts (a.put o.dst (.agg cs.toArray)) w) : wpTG P ops S Q (o :: rest) (2 :: ts) a w :=
  tl_loadRowS hw ho he hc (by rw [hn]; exact ht) k
end
end Txt
end Go.Proofs.YthllhjdaknmlbaaDoor
