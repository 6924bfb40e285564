/-
  Fetchings: how they lie; rows of them: IndexFunc, DeleteFunc.
-/
import Derived.Test.YtgllkfolckbdhaaRows6
import Derived.Test.YtgllkfolckbdhaaGIf
import Derived.Test.YtgllkfolckbdhaaMpK
import Derived.Test.YtgllkfolckbdhaaSqL
import Derived.Test.YtgllkfolckbdhaaGTx
import Derived.Test.YtgllkfolckbdhaaGOp
set_option linter.unusedVariables false
set_option linter.unusedSimpArgs false
namespace Go.Proofs.Ytgllkfolckbdhaa
open Go.RowKit
namespace Fe
open Oct Ids Mp
open Mem (M It blk ids rows)
abbrev Wd := List UInt8
theorem at_load {P : Program} {ops : Array Oper} {Q : Exit → Act → World → Prop} {d : Option Tmp} {ty : TypeId} {p : String} {x : Operand} {af} {g} {rest : List Oper} {a : Act} {w : World} (T : TypeId) (h : wpList P ops Q ({ dst := d, op := .load T x, type := ty, pos := p, after := af, guard := g } :: rest) a w) : wpList P ops Q ({ dst := d, op := .load T x, type := ty, pos := p, after := af, guard := g } :: rest) a w := h
theorem at_alloc {P : Program} {ops : Array Oper} {Q : Exit → Act → World → Prop} {d : Option Tmp} {ty : TypeId} {p : String} {af} {g} {rest : List Oper} {a : Act} {w : World} (T : TypeId) (h : wpList P ops Q ({ dst := d, op := .alloc T, type := ty, pos := p, after := af, guard := g } :: rest) a w) : wpList P ops Q ({ dst := d, op := .alloc T, type := ty, pos := p, after := af, guard := g } :: rest) a w := h
theorem at_store {P : Program} {ops : Array Oper} {Q : Exit → Act → World → Prop} {d : Option Tmp} {ty : TypeId} {p : String} {x y : Operand} {af} {g} {rest : List Oper} {a : Act} {w : World} (T : TypeId) (h : wpList P ops Q ({ dst := d, op := .store T x y, type := ty, pos := p, after := af, guard := g } :: rest) a w) : wpList P ops Q ({ dst := d, op := .store T x y, type := ty, pos := p, after := af, guard := g } :: rest) a w := h
theorem at_dst {P : Program} {ops : Array Oper} {Q : Exit → Act → World → Prop} {op : Op} {ty : TypeId} {p : String} {af} {g} {rest : List Oper} {a : Act} {w : World} (d : Tmp) (h : wpList P ops Q ({ dst := some d, op := op, type := ty, pos := p, after := af, guard := g } :: rest) a w) : wpList P ops Q ({ dst := some d, op := op, type := ty, pos := p, after := af, guard := g } :: rest) a w := h
theorem at_callW {P : Program} {f : Nat} {w : World} {Q : Ending → World → Prop} (args : Array Value) (h : Calls P f args w Q) : Calls P f args w Q := h
/-- A fetching. -/
structure Fd where
  u : Wd
  hu : u.length = 32
  p : Int
  d : Int
  t : Int
  g : Bool
  h : Bool
def fe (x : Fd) : List Value := x.u.map bv ++ [.int .i64 x.p, .int .i64 x.d, .int .i64 x.t, .bool x.g, .bool x.h]
theorem fe_len (x : Fd) : (fe x).length = 37 := by unfold fe; simp [x.hu]
theorem F_enc : St.Enc 37 fe := by
  refine ⟨fe_len, fun x v hv => ?_⟩
  unfold fe at hv
  simp only [List.mem_append, List.mem_cons, List.mem_map, List.not_mem_nil, or_false] at hv
  rcases hv with ⟨y, _, rfl⟩ | rfl | rfl | rfl | rfl | rfl <;> rfl
abbrev F_enc' := F_enc
abbrev fz : Array Value := ((List.replicate 32 (0 : UInt8)).map bv ++ [Value.int .i64 0, .int .i64 0, .int .i64 0, .bool false, .bool false]).toArray
theorem tyF : St.Ty 39 37 fz := ⟨⟨_, Try.underlying39, rfl⟩, by kernel_rfl, by kernel_rfl⟩
theorem slF : SlT Try.prog 36 39 (.agg fz) 37 64 := SlT.mk' Try.underlying36 (by kernel_rfl) rfl (by omega)
theorem fe_sz (x : Fd) : (fe x).toArray.size = 37 := by rw [List.size_toArray, fe_len]
theorem fz_one : fz.all (·.oneCell') = true := by simp [bv, Value.oneCell']
/-- What is asked of a function value: it tells of each element what 'p' says, in whatever world stands behind this one. -/
def F_Tells (S : Nat → Prop) (w : World) (g : Nat) (bs ls : Array Value) (els : List Fd) (p : Fd → Bool) : Prop :=
  ∀ (w1 : World) (x : Fd), x ∈ els → Keep S w w1 → Calls Try.prog g (bs.push (.agg (fe x).toArray) ++ ls) w1 fun e w2 => e = .returned (.bool (p x)) ∧ Keep (fun _ => False) w1 w2
set_option maxRecDepth 100000 in
set_option maxHeartbeats 1000000 in
theorem F_index (w : World) (a : Option Addr) (n c : Nat) (els : List Fd) (h : St.At 37 fe w a n els) (hm : n ≤ 1000000) (g : Nat) (bs ls : Array Value) (p : Fd → Bool)
    (eg : ∀ args w, (callFunc g args).run Try.prog w = .ok (.enter g args) w) (hp : F_Tells (fun _ => False) w g bs ls els p) :
    Calls Try.prog 49 #[.slice a n c, .func (.func g) bs ls] w fun e w' => e = .returned (.int .i64 (St.idx p els)) ∧ Keep (fun _ => False) w w' := by
  have H : Hid _ := h
  have HP : Hid (F_Tells (fun _ => False) w g bs ls els p) := hp
  have HN : Hid (els.length = n) := h.len
  clear h hp
  go_enter Try.func49, Try.ntmps49
  go_wp2
  go_loopw [8] (fun i wr => ∃ k : Nat, k ≤ n ∧ i = .int .i64 k ∧ Keep (fun _ => False) w wr ∧ (∀ (j : Nat) (y : Fd), j < k → els[j]? = some y → p y = false)) (fun i _ => n - (intOf i).toNat)
  case atStart => exact ⟨0, Nat.zero_le _, rfl, Keep.refl _ _, fun j y hj => absurd hj (Nat.not_lt_zero _)⟩
  case round =>
    obtain ⟨k, hk, rfl, hkp, hb⟩ := hrel
    have HK : Hid _ := hkp
    have HB : Hid _ := hb
    clear hkp hb
    by_cases hlt : k < n
    · obtain ⟨x, hx⟩ : ∃ x, els[k]? = some x := ⟨_, List.getElem?_eq_getElem (by rw [HN.out]; omega)⟩
      obtain ⟨b1, o1, rfl, hb1, hr1⟩ : ∃ b off, a = some ⟨b, off, none⟩ ∧ b < w.heap.size ∧ ∀ i x, els[i]? = some x → w.rangeAt b (off + i * 37) (fe x) := by rcases H.out.lay with e | e; omega; exact e
      have R1 : Hid _ := HK.out.range hb1 (fun h => h) (hr1 k x hx)
      have Hx : Hid _ := hx
      have hc : Hid (Calls Try.prog g (bs.push (.agg (fe x).toArray) ++ ls) wr fun e w2 => e = .returned (.bool (p x)) ∧ Keep (fun _ => False) wr w2) := HP.out wr x (List.mem_of_getElem? hx) HK.out
      clear hr1 hx
      by_cases hpx : p x = true
      · have HPX : Hid _ := hpx
        rw [hpx] at hc
        clear hpx
        go_wp2_with (first | ((with_reducible refine at_load 39 ?_); refine St.wl_load tyF (by rfl) rfl rfl R1.out (F_enc.len x) ?_; simp only [Act.put, List.setIfInBounds_toArray, List.set_cons_zero, List.set_cons_succ]) | (go_at_fn g; refine hc.out.mono ?_; rintro e w2 ⟨rfl, h2⟩; have K2 : Hid _ := h2; clear h2))
        go_ret
        exact ⟨by rw [St.idx_some Hx.out HPX.out HB.out]; rfl, HK.out.trans K2.out⟩
      · have hpf : p x = false := by simpa using hpx
        have HPX : Hid _ := hpf
        rw [hpf] at hc
        clear hpx hpf
        go_wp2_with (first | ((with_reducible refine at_load 39 ?_); refine St.wl_load tyF (by rfl) rfl rfl R1.out (F_enc.len x) ?_; simp only [Act.put, List.setIfInBounds_toArray, List.set_cons_zero, List.set_cons_succ]) | (go_at_fn g; refine hc.out.mono ?_; rintro e w2 ⟨rfl, h2⟩; have K2 : Hid _ := h2; clear h2))
        go_roundw
        case rel =>
          refine ⟨k + 1, by omega, rfl, HK.out.trans K2.out, fun j y hj hy => ?_⟩
          rcases Nat.lt_or_ge j k with h1 | h1
          · exact HB.out j y h1 hy
          · obtain rfl : j = k := by omega
            rw [Hx.out] at hy
            rw [← Option.some.inj hy]
            exact HPX.out
        case measure => simp [intOf]; omega
    · obtain rfl : k = n := by omega
      go_wp2
      go_ret
      exact ⟨by rw [St.idx_none (by rw [HN.out]; exact HB.out)]; rfl, HK.out⟩
theorem F_Tells.less {S T : Nat → Prop} {w : World} {g : Nat} {bs ls : Array Value} {els : List Fd} {p : Fd → Bool} (h : F_Tells S w g bs ls els p) (hs : ∀ k, k < w.heap.size → T k → S k) : F_Tells T w g bs ls els p :=
  fun w1 x hx k1 => h w1 x hx (k1.mono hs)
theorem filter_take {α : Type} {p : α → Bool} {l : List α} {j : Nat} {x : α} (hx : l[j]? = some x) : (l.take (j + 1)).filter p = (l.take j).filter p ++ (if p x then [x] else []) := by
  rw [List.take_add_one, hx, List.filter_append]
  show _ ++ List.filter p [x] = _
  simp only [List.filter_cons, List.filter_nil]
theorem filter_all {α : Type} {p : α → Bool} {l : List α} (h : ∀ (j : Nat) (y : α), l[j]? = some y → p y = true) : l.filter p = l := by
  rw [List.filter_eq_self]
  intro x hx
  obtain ⟨i, hi, rfl⟩ := List.getElem_of_mem hx
  exact h i _ (List.getElem?_eq_getElem hi)
theorem idx_cases {α : Type} (p : α → Bool) (l : List α) : (St.idx p l = -1 ∧ ∀ (j : Nat) (y : α), l[j]? = some y → p y = false) ∨ ∃ (i : Nat) (x : α), St.idx p l = i ∧ l[i]? = some x ∧ p x = true ∧ ∀ (j : Nat) (y : α), j < i → l[j]? = some y → p y = false := by
  cases hf : l.findIdx? p with
  | none =>
    left
    refine ⟨by unfold St.idx; rw [hf], fun j y hj => ?_⟩
    rw [List.findIdx?_eq_none_iff] at hf
    exact hf y (List.mem_of_getElem? hj)
  | some i =>
    right
    rw [List.findIdx?_eq_some_iff_getElem] at hf
    obtain ⟨hi, h1, h2⟩ := hf
    have hx : l[i]? = some l[i] := List.getElem?_eq_getElem hi
    have hb : ∀ (j : Nat) (y : α), j < i → l[j]? = some y → p y = false := fun j y hj hy => by
      have := h2 j hj
      rw [(List.getElem?_eq_some_iff.1 hy).2] at this
      simpa using this
    exact ⟨i, l[i], St.idx_some hx h1 hb, hx, h1, hb⟩
abbrev OwnF (w : World) (v : Value) (els : List Fd) : Prop := St.Own 39 37 fe w v els
theorem own_rng {w : World} {g q c i : Nat} {L : List Fd} {y : Fd} (h : OwnF w (.slice (some ⟨g, 0, none⟩) q c) L) (hy : L[i]? = some y) : w.rangeAt g (i * 37) (fe y) := by
  obtain ⟨-, hat⟩ := St.Own.slice h
  rcases hat.lay with h0 | ⟨b, off, e, _, hr⟩
  · have := (List.getElem?_eq_some_iff.1 hy).1
    omega
  · simp only [Option.some.injEq, Addr.mk.injEq] at e
    obtain ⟨rfl, rfl, -⟩ := e
    have := hr i y hy
    rwa [Nat.zero_add] at this
theorem own_form {w : World} {v : Value} {els : List Fd} (h : OwnF w v els) : (v = .slice none 0 0 ∧ els = []) ∨ ∃ g c, v = .slice (some ⟨g, 0, none⟩) els.length c := by
  rcases h.own.2 with ⟨rfl, h0⟩ | ⟨g, cap, cur, rfl, _⟩
  · exact .inl ⟨rfl, List.eq_nil_of_length_eq_zero h0⟩
  · exact .inr ⟨g, cap, rfl⟩
set_option maxRecDepth 100000 in
set_option maxHeartbeats 4000000 in
theorem fdelete_own (w : World) (g n c : Nat) (els : List Fd) (h : OwnF w (.slice (some ⟨g, 0, none⟩) n c) els) (hm : n ≤ 1000000) (f : Nat) (bs ls : Array Value) (p : Fd → Bool)
    (eg : ∀ args w, (callFunc f args).run Try.prog w = .ok (.enter f args) w) (hp : F_Tells (fun k => k = g) w f bs ls els p) :
    Calls Try.prog 37 #[.slice (some ⟨g, 0, none⟩) n c, .func (.func f) bs ls] w fun e w' =>
      ∃ n', e = .returned (.slice (some ⟨g, 0, none⟩) n' c) ∧ OwnF w' (.slice (some ⟨g, 0, none⟩) n' c) (els.filter fun x => !p x) ∧ Keep (fun k => k = g) w w' := by
  have hn := h.block.1
  have hnc := h.block.2.choose_spec.2.1
  have hg : g < w.heap.size := h.lt rfl
  obtain ⟨-, hat⟩ := St.Own.slice h
  have hat' : St.At 37 fe w (some ⟨g, 0, none⟩) n els := by rw [hn]; exact hat
  have hI := F_index w _ n c els hat' hm f bs ls p eg (hp.less (fun _ _ h => h.elim))
  have H : Hid (OwnF w (.slice (some ⟨g, 0, none⟩) n c) els) := h
  have HP : Hid (F_Tells (fun k => k = g) w f bs ls els p) := hp
  have HN : Hid (n = els.length) := hn
  clear h hp hat hat' hn
  rcases idx_cases p els with ⟨hix, hall⟩ | ⟨i, x0, hix, hx0, hp0, hbef⟩
  · rw [hix] at hI
    have e : (els.filter fun x => !p x) = els := filter_all fun j y hy => by rw [hall j y hy]; rfl
    rw [e]
    clear hall e hix
    go_enter Try.func37, Try.ntmps37
    go_wp2_with (go_at_call 49; refine hI.mono ?_; rintro e w1 ⟨rfl, h1⟩; have K1 : Hid (Keep (fun _ => False) w w1) := h1; clear h1)
    go_ret
    exact ⟨_, rfl, H.out.keep K1.out (fun _ _ h => h), K1.out.mono (fun _ _ h => h.elim)⟩
  · rw [hix] at hI
    have hin : i < n := by rw [HN.out]; exact (List.getElem?_eq_some_iff.1 hx0).1
    have HT0 : Hid (els.take i = (els.take (i + 1)).filter fun x => !p x) := by
      show els.take i = (els.take (i + 1)).filter fun x => !p x
      rw [filter_take hx0, hp0]
      simp only [Bool.not_true, Bool.false_eq_true, if_false, List.append_nil]
      refine (filter_all fun j y hy => ?_).symm
      have hj : j < i := by have := (List.getElem?_eq_some_iff.1 hy).1; rw [List.length_take] at this; omega
      rw [List.getElem?_take, if_pos hj] at hy
      rw [hbef j y hj hy]; rfl
    have hne : ((i : Int) == -1) = false := beq_eq_false_iff_ne.2 (by omega)
    clear hx0 hp0 hbef hix
    go_enter Try.func37, Try.ntmps37
    go_wp2_with (go_at_call 49; refine hI.mono ?_; rintro e w1 ⟨rfl, h1⟩; have K1 : Hid (Keep (fun _ => False) w w1) := h1; clear h1)
    clear hI
    go_loopw [5, 6] (fun s5 s6 wv => ∃ (m j : Nat) (ds : List Fd), s5 = .int .i64 m ∧ s6 = .int .i64 j ∧ m < j ∧ j ≤ n ∧ OwnF wv (.slice (some ⟨g, 0, none⟩) n c) ds ∧ ds.take m = (els.take j).filter (fun x => !p x) ∧ (∀ t, j ≤ t → ds[t]? = els[t]?) ∧ Keep (fun b => b = g) w wv) (fun _ s6 _ => n - (intOf s6).toNat)
    case atStart => exact ⟨i, i + 1, els, rfl, rfl, by omega, by omega, H.out.keep K1.out (fun _ _ h => h), HT0.out, fun _ _ => rfl, K1.out.mono (fun _ _ h => h.elim)⟩
    case round =>
      obtain ⟨m, j, ds, rfl, rfl, hmj, hj, ho, ht, hd, hkw⟩ := hrel
      have HO : Hid (OwnF wr (.slice (some ⟨g, 0, none⟩) n c) ds) := ho
      have HT : Hid _ := ht
      have HD : Hid _ := hd
      have HKw : Hid _ := hkw
      have Hdn : Hid (n = ds.length) := ho.block.1
      clear ho ht hd hkw
      by_cases hlj : j < n
      · obtain ⟨x, hx⟩ : ∃ x, els[j]? = some x := ⟨_, List.getElem?_eq_getElem (by rw [← HN.out]; omega)⟩
        have hmn : m < n := by omega
        have R1 : Hid (wr.rangeAt g (j * 37) (fe x)) := own_rng HO.out (by rw [HD.out _ (by omega)]; exact hx)
        have Hx : Hid _ := hx
        have Ka : Hid (Keep (fun b => b = g) w (wr.alloc (.cells (fe x).toArray 39))) := HKw.out.alloc _
        have Oa : Hid (OwnF (wr.alloc (.cells (fe x).toArray 39)) (.slice (some ⟨g, 0, none⟩) n c) ds) := HO.out.keep ((Keep.refl (fun _ => False) wr).alloc _) (fun _ _ h => h)
        have Ra : Hid ((wr.alloc (.cells (fe x).toArray 39)).rangeAt wr.heap.size 0 (fe x)) := range_new wr _ _
        have hc : Hid (Calls Try.prog f (bs.push (.agg (fe x).toArray) ++ ls) (wr.alloc (.cells (fe x).toArray 39)) fun e w2 => e = .returned (.bool (p x)) ∧ Keep (fun _ => False) (wr.alloc (.cells (fe x).toArray 39)) w2) := HP.out _ x (List.mem_of_getElem? hx) Ka.out
        clear hx
        by_cases hpx : p x = true
        · have HPX : Hid _ := hpx
          rw [hpx] at hc
          clear hpx
          go_wp2_with (first | ((with_reducible refine at_alloc 39 ?_); refine St.wl_alloc tyF rfl rfl (by (try simp only [World.size_alloc]); rfl) ?_; simp only [Act.put, List.setIfInBounds_toArray, List.set_cons_zero, List.set_cons_succ]) | ((with_reducible refine at_store 39 ?_); refine St.wl_storeN (W := wr) tyF rfl rfl rfl rfl rfl (by (try simp only [World.size_alloc])) (show _ = Value.agg (fe x).toArray from rfl) (fe_sz x) rfl (F_enc.all x) ?_) | ((with_reducible refine at_load 39 ?_); first | (refine St.wl_load tyF rfl rfl rfl R1.out (fe_len x) ?_; simp only [Act.put, List.setIfInBounds_toArray, List.set_cons_zero, List.set_cons_succ]) | (refine St.wl_load tyF rfl rfl rfl Ra.out (fe_len x) ?_; simp only [Act.put, List.setIfInBounds_toArray, List.set_cons_zero, List.set_cons_succ])) | (go_at_fn f; refine hc.out.mono ?_; rintro e w2 ⟨rfl, h2⟩; have K2 : Hid _ := h2; clear h2))
          go_roundw
          case rel =>
            refine ⟨m, j + 1, ds, rfl, rfl, by omega, by omega, Oa.out.keep K2.out (fun _ _ h => h), ?_, fun t h => HD.out t (by omega), Ka.out.trans' K2.out (fun _ _ h => h) (fun _ _ h => h.elim)⟩
            rw [HT.out, filter_take Hx.out, HPX.out]
            simp
          case measure => simp [intOf]; omega
        · have hpf : p x = false := by simpa using hpx
          have HPX : Hid _ := hpf
          rw [hpf] at hc
          clear hpx hpf
          go_wp2_with (first | ((with_reducible refine at_alloc 39 ?_); refine St.wl_alloc tyF rfl rfl (by (try simp only [World.size_alloc]); rfl) ?_; simp only [Act.put, List.setIfInBounds_toArray, List.set_cons_zero, List.set_cons_succ]) | ((with_reducible refine at_store 39 ?_); refine St.wl_storeN (W := wr) tyF rfl rfl rfl rfl rfl (by (try simp only [World.size_alloc])) (show _ = Value.agg (fe x).toArray from rfl) (fe_sz x) rfl (F_enc.all x) ?_) | ((with_reducible refine at_load 39 ?_); first | (refine St.wl_load tyF rfl rfl rfl R1.out (fe_len x) ?_; simp only [Act.put, List.setIfInBounds_toArray, List.set_cons_zero, List.set_cons_succ]) | (refine St.wl_load tyF rfl rfl rfl Ra.out (fe_len x) ?_; simp only [Act.put, List.setIfInBounds_toArray, List.set_cons_zero, List.set_cons_succ])) | (go_at_fn f; refine hc.out.mono ?_; rintro e w2 ⟨rfl, h2⟩; have K2 : Hid _ := h2; have R2 : Hid (w2.rangeAt wr.heap.size 0 (fe x)) := h2.range (by simp) (fun h => h) Ra.out; have O2 : Hid (OwnF w2 (.slice (some ⟨g, 0, none⟩) n c) ds) := Oa.out.keep h2 (fun _ _ h => h); clear h2) | ((with_reducible refine at_load 39 ?_); refine St.wl_load tyF rfl rfl rfl R2.out (fe_len x) ?_; simp only [Act.put, List.setIfInBounds_toArray, List.set_cons_zero, List.set_cons_succ]) | ((with_reducible refine at_store 39 ?_); refine wpList_plain rfl fun _ hK => St.wp_set F_enc tyF rfl rfl O2.out rfl hmn x rfl rfl ?_; intro w3 h1 h2; refine hK _ _ ?_; have H3 : Hid _ := h1; have K3 : Hid _ := h2; clear h1 h2))
          go_roundw
          case rel =>
            refine ⟨m + 1, j + 1, ds.set m x, rfl, rfl, by omega, by omega, H3.out, ?_, fun t h => ?_, (Ka.out.trans' K2.out (fun _ _ h => h) (fun _ _ h => h.elim)).trans K3.out⟩
            · rw [filter_take Hx.out, HPX.out, ← HT.out, List.take_add_one, List.take_set_of_le (Nat.le_refl _), List.getElem?_set_self (by rw [← Hdn.out]; exact hmn)]
              rfl
            · rw [List.getElem?_set_ne (by omega)]
              exact HD.out t (by omega)
          case measure => simp [intOf]; omega
      · obtain rfl : j = n := by omega
        obtain ⟨w3, hcl, hown3, hkeep3⟩ := St.run_clear F_enc tyF rfl (by decide) fz_one Try.underlying36 (k := m) (m := j - m) (c' := c - m) HO.out (by omega)
        have H3 : Hid _ := hown3
        have K3 : Hid _ := hkeep3
        have hmn : m ≤ j := by omega
        have e : els.take j = els := List.take_of_length_le (by rw [← HN.out]; exact Nat.le_refl _)
        have HT2 : Hid (ds.take m = els.filter fun x => !p x) := by show ds.take m = els.filter fun x => !p x; rw [HT.out, e]
        clear hown3 hkeep3 e
        go_wp2
        go_ret
        refine ⟨_, rfl, ?_, HKw.out.trans K3.out⟩
        rw [← HT2.out]
        exact H3.out
set_option maxRecDepth 100000 in
theorem fdelete_any (w : World) (v : Value) (els : List Fd) (h : OwnF w v els) (hm : els.length ≤ 1000000) (f : Nat) (bs ls : Array Value) (p : Fd → Bool)
    (eg : ∀ args w, (callFunc f args).run Try.prog w = .ok (.enter f args) w) (hp : F_Tells (fun k => v.ownBlock = some k) w f bs ls els p) :
    Calls Try.prog 37 #[v, .func (.func f) bs ls] w fun e w' =>
      ∃ v', e = .returned v' ∧ OwnF w' v' (els.filter fun x => !p x) ∧ v'.ownBlock = v.ownBlock ∧ Keep (fun k => v.ownBlock = some k) w w' := by
  rcases own_form h with ⟨rfl, rfl⟩ | ⟨g, c, rfl⟩
  · have hI := F_index w none 0 0 [] ⟨rfl, Nat.zero_le _, .inl rfl⟩ (by omega) f bs ls p eg (fun w1 x hx => by cases hx)
    have hi : St.idx p ([] : List Fd) = -1 := rfl
    rw [hi] at hI
    go_enter Try.func37, Try.ntmps37
    go_wp2_with (go_at_call 49; refine hI.mono ?_; rintro e w1 ⟨rfl, h1⟩; have K1 : Hid (Keep (fun _ => False) w w1) := h1; clear h1)
    go_ret
    exact ⟨_, rfl, h.keep K1.out (fun _ _ h => h), rfl, K1.out.mono (fun _ _ h => h.elim)⟩
  · have hm2 := hm
    obtain ⟨q, hq⟩ : ∃ q, els.length = q := ⟨_, rfl⟩
    rw [hq] at h hm2 ⊢
    refine (fdelete_own w g q c els h hm2 f bs ls p eg (hp.less (fun k _ e => by rw [e]; rfl))).mono ?_
    rintro e w' ⟨n', rfl, h1, k1⟩
    exact ⟨_, rfl, h1, rfl, k1.mono (fun k _ e => by rw [e]; rfl)⟩
end Fe
end Go.Proofs.Ytgllkfolckbdhaa
