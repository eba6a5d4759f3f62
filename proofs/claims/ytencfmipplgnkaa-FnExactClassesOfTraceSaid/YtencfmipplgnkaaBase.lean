/- General helpers, no program in sight: worlds that only grow, regions that draw their order and whose calls make memory, arrays of integers that are compared. -/
import Derived.WalkKit
import Derived.WalkSpells
import Derived.WalkLawsBesides
import Derived.Handy
import Derived.Deep.QuietTactic
import Derived.BigQuiet
import Derived.StillTail
import Derived.ChangeKeysEq
import Derived.Lib.Hide
import Derived.OpenShut
import Derived.WideShapes
namespace Go.Proofs.Ytencfmipplgnkaa
open Go.RowKit

/-! ### The class of the worlds that lie above one world -/
structure Ext (B : Nat) (W : World) where
  w : World
  h : Below B W w

instance (B : Nat) (W : World) : Nonempty (Ext B W) := ⟨⟨W, Below.refl _ _⟩⟩

theorem Ext.cell {B : Nat} {W : World} (s : Ext B W) (b o : Nat) (h : b < B) : s.w.cell? ⟨b, o, none⟩ = W.cell? ⟨b, o, none⟩ := s.h.cell (p := ⟨b, o, none⟩) h
theorem Ext.frozen {B : Nat} {W : World} (s : Ext B W) (b o : Nat) (h : b < B) : s.w.frozen? ⟨b, o, none⟩ = W.frozen? ⟨b, o, none⟩ := s.h.frozen (p := ⟨b, o, none⟩) h
attribute [go_sem] Ext.cell Ext.frozen

theorem bcell {W w1 : World} (hb : Below W.heap.size W w1) : (∀ b o, b < W.heap.size → w1.cell? ⟨b, o, none⟩ = W.cell? ⟨b, o, none⟩) ∧ (∀ b o, b < W.heap.size → w1.frozen? ⟨b, o, none⟩ = W.frozen? ⟨b, o, none⟩) :=
  ⟨fun b o h => hb.cell (p := ⟨b, o, none⟩) h, fun b o h => hb.frozen (p := ⟨b, o, none⟩) h⟩

theorem bstep {W0 W1 W2 : World} (h : Below W0.heap.size W0 W1) (h' : Below W1.heap.size W1 W2) : Below W0.heap.size W0 W2 := h.trans (h'.mono h.size)
/-- The end of a function that has laid the blocks of W0 over w. -/
theorem bfin {w W0 W1 : World} (h : Below w.heap.size w W0) (h' : Below W0.heap.size W0 W1) : Below w.heap.size w W1 := h.trans (h'.mono h.size)

theorem Calls.ext_of {P : Program} {f : FuncId} {args : Array Value} {B : Nat} {W : World} {s : Ext B W} {v : Value} (hB : B ≤ W.heap.size)
    (h : Calls P f args s.w fun e w' => e = .returned v ∧ Below s.w.heap.size s.w w') : Calls P f args s.w fun e w'' => e = .returned v ∧ ∃ s' : Ext B W, w'' = s'.w :=
  h.mono fun _ w' ⟨he, hb⟩ => ⟨he, ⟨w', s.h.trans (hb.mono (Nat.le_trans hB s.h.size))⟩, rfl⟩

theorem Calls.ext_same {P : Program} {f : FuncId} {args : Array Value} {B : Nat} {W : World} {s : Ext B W} {v : Value}
    (h : Calls P f args s.w fun e w' => e = .returned v ∧ s.w = w') : Calls P f args s.w fun e w'' => e = .returned v ∧ ∃ s' : Ext B W, w'' = s'.w :=
  h.mono fun _ _ ⟨he, hb⟩ => ⟨he, s, hb.symm⟩

/-- A region that draws its order, whose operations read, and whose callees make memory at most. -/
theorem wp_region_ext {P : Program} {id : Nat} {Q : Exit → Act → World → Prop} {a : Act} {w : World} {l : List Oper} (hm : P.follows .mixedOrders = true) (hB : Region.lexB .any l.toArray = true)
    (h : wpQuiet P l.toArray (fun w' => ∃ s : Ext w.heap.size w, w' = s.w) (fun a' => ∀ w', Below w.heap.size w w' → Q .normal a' w') l a) : (Code.region id l.toArray true).wp P Q a w := by
  refine wp_region_quiet (C := fun w' => ∃ s : Ext w.heap.size w, w' = s.w) hm hB ⟨⟨_, (Below.refl _ _).drew⟩, rfl⟩ ?_
  have key : ∀ (l' : List Oper) (a : Act), wpQuiet P l.toArray (fun w' => ∃ s : Ext w.heap.size w, w' = s.w) (fun a' => ∀ w', Below w.heap.size w w' → Q .normal a' w') l' a →
      wpQuiet P l.toArray (fun w' => ∃ s : Ext w.heap.size w, w' = s.w) (fun a' => ∀ w', (∃ s : Ext w.heap.size w, w' = s.w) → Q .normal a' w') l' a := by
    intro l'
    induction l' with
    | nil => rintro a h _ ⟨s, rfl⟩; exact h _ s.h
    | cons o rest ih =>
      intro a h
      unfold wpQuiet at h ⊢
      split
      · rename_i hw; rw [if_pos hw] at h; exact Oper.quiet_mono (fun a => ih a) h
      · rename_i hw; rw [if_neg hw] at h; exact ih _ h
  exact key _ _ h

/-! ### The same with a tail whose order is forced -/
section
variable {P : Program} {ops : Array Oper} {md : Region.Mode} {C : World → Prop}

def wpAnyLQ (P : Program) (md : Region.Mode) (ops : Array Oper) (C : World → Prop) (n : Nat) (L : Array Bool → Act → Prop) : Nat → Array Bool → Act → Prop
  | 0, listed, a => L listed a
  | f + 1, listed, a =>
    Region.ready md ops listed ≠ [] ∧ ∀ i ∈ Region.ready md ops listed, i < n ∧ qOp P ops C i (wpAnyLQ P md ops C n L f (listed.setIfInBounds i true)) a

theorem wpAny_of_headQ {n g : Nat} {L : Array Bool → Act → Prop} {Q' : Exit → Act → World → Prop} (hL : ∀ listed a w, C w → L listed a → wpAny P md ops Q' g listed a w) :
    ∀ (f : Nat) (listed : Array Bool) (a : Act) (w : World), C w → wpAnyLQ P md ops C n L f listed a → wpAny P md ops Q' (f + g) listed a w
  | 0, listed, a, w, hw, h => by rw [Nat.zero_add]; exact hL _ _ _ hw h
  | f + 1, listed, a, w, hw, h => by
    rw [show f + 1 + g = (f + g) + 1 by omega]
    exact ⟨fun h0 => absurd h0 h.1, fun i hi => wpOp_of_qOp hw (fun a' w' hw' h' => wpAny_of_headQ hL f _ a' w' hw' h') (h.2 i hi).2⟩

theorem wpAnyLQ_first {n i : Nat} {oi : Oper} {v : Value} {L : Array Bool → Act → Prop} (hi : ops[i]? = some oi) (hsel : ∀ (j : Nat) (o : Oper) cs b, ops[j]? = some o → o.op ≠ .select cs b)
    (hs : Region.sinkB md ops n = true) (hc : Region.chainB md ops n = true) (hn : n < ops.size) (hin : i < n)
    (hdone : ∀ listed a, L listed a → ∀ j ∈ Region.ready md ops listed, n ≤ j) :
    ∀ (f : Nat) (listed : Array Bool) (a : Act), HeadInv md ops n listed →
      (∀ j oj, ops[j]? = some oj → j ≠ i → listed.getD j true = false → (∀ e ∈ oj.after, Region.binds md e = true → e.on ≠ i) → oi.apart ops oj = true) →
      i ∈ Region.ready md ops listed → YieldsIn P ops C oi v a →
      wpAnyLQ P md ops C n L f (listed.setIfInBounds i true) (a.put oi.dst v) → wpAnyLQ P md ops C n L (f + 1) listed a := by
  intro f
  induction f with
  | zero =>
    intro listed a inv _ hr hy H
    have hun := (mem_ready.1 hr).1
    refine ⟨fun h => (by rw [h] at hr; cases hr), fun j hj => ?_⟩
    have hjn : j < n := by
      rcases Nat.lt_or_ge j n with h | h
      · exact h
      · exact absurd hj (tail_waits hs hc hn inv _ i rfl hin hun j h)
    refine ⟨hjn, ?_⟩
    by_cases hji : j = i
    · subst hji; exact hy.qOp hi H
    · have := hdone _ _ H j (ready_mono hj hji)
      omega
  | succ f ih =>
    intro listed a inv hfree hr hy H
    have hun := (mem_ready.1 hr).1
    refine ⟨fun h => (by rw [h] at hr; cases hr), fun j hj => ?_⟩
    have hjn : j < n := by
      rcases Nat.lt_or_ge j n with h | h
      · exact h
      · exact absurd hj (tail_waits hs hc hn inv _ i rfl hin hun j h)
    refine ⟨hjn, ?_⟩
    by_cases hji : j = i
    · subst hji; exact hy.qOp hi H
    · have h1 := (H.2 j (ready_mono hj hji)).2
      obtain ⟨hjun, oj, hoj, hall⟩ := mem_ready.1 hj
      have hnot : ∀ e ∈ oj.after, Region.binds md e = true → e.on ≠ i := fun e he hb heq => by
        have h1 := hall e he hb
        rw [heq, getD_both hun] at h1
        cases h1
      have h2 := qOp_put hoj (hfree j oj hoj hji hjun hnot) (fun cs b => hsel i oi cs b hi) (fun cs b => hsel j oj cs b hoj) hy h1
      have hfree' : ∀ k ok, ops[k]? = some ok → k ≠ i → (listed.setIfInBounds j true).getD k true = false →
          (∀ e ∈ ok.after, Region.binds md e = true → e.on ≠ i) → oi.apart ops ok = true := fun k ok hk hki hun hno => by
        refine hfree k ok hk hki ?_ hno
        by_cases hjk : j = k
        · subst hjk; exact hjun
        · rw [getD_set_ne true hjk] at hun; exact hun
      refine qOp_mono (fun a' h3 => ih (listed.setIfInBounds j true) a' (inv.set hj hjn) hfree' (ready_mono hr (Ne.symm hji)) h3.1 ?_) h2
      rw [Array.setIfInBounds_comm _ _ hji]
      exact h3.2

theorem wpAnyLQ_lex {n g : Nat} {Lq : Act → Prop} (hsel : Region.noSelect ops = true) (hs : Region.sinkB md ops n = true) (hc : Region.chainB md ops n = true) (hn : n < ops.size) :
    ∀ (l : List Oper) (k : Nat) (listed : Array Bool) (a : Act), (∀ j, j < l.length → l[j]? = ops[k + j]?) → k + l.length = n → HeadInv md ops n listed →
    Region.lexHead md ops g l.length k listed = true → wpQuiet P ops C Lq l a →
    wpAnyLQ P md ops C n (fun listed' a' => Region.seqB md ops g n listed' = true ∧ Lq a') l.length listed a
  | [], k, listed, a, _, hk, _, hB, h => by
    have : k = n := by simpa using hk
    subst this
    exact ⟨by simpa [Region.lexHead] using hB, h⟩
  | o :: l, k, listed, a, hl, hk, inv, hB, h => by
    have h0 : ops[k]? = some o := by simpa using (hl 0 (by simp)).symm
    simp only [List.length_cons, Region.lexHead, Bool.and_eq_true] at hB
    obtain ⟨⟨hr, hf⟩, hB'⟩ := hB
    have hkn : k < n := by simp only [List.length_cons] at hk; omega
    have hr' : k ∈ Region.ready md ops listed := by simpa using hr
    have hst : qOp P ops C k (wpQuiet P ops C Lq l) a := by unfold qOp; simp only [h0]; exact h
    obtain ⟨v, hy, hK⟩ := yieldsIn_of_qOp h0 hst
    exact wpAnyLQ_first h0 (Region.noSelect_spec hsel) hs hc hn hkn (fun listed' a' hL => seqB_ready hL.1) l.length listed a inv (Region.free_spec h0 hf) hr' hy
      (wpAnyLQ_lex hsel hs hc hn l (k + 1) _ _ (fun j hj => by have := hl (j + 1) (by simp; omega); simpa [Nat.add_assoc, Nat.add_comm 1 j] using this) (by simp only [List.length_cons] at hk; omega) (inv.set hr' hkn) hB' hK)
end

/-- The first n operations read and call; the others follow in the text's order, from any world above. -/
theorem wp_region_ext_tail {P : Program} {id : Nat} {Q : Exit → Act → World → Prop} {a : Act} {w : World} {l : List Oper} (n : Nat) (hm : P.follows .mixedOrders = true) (hB : Region.lexTailB .any l.toArray n = true)
    (h : wpQuiet P l.toArray (fun w' => ∃ s : Ext w.heap.size w, w' = s.w) (fun a' => ∀ w', Below w.heap.size w w' → wpList P l.toArray Q (l.drop n) a' w') (l.take n) a) : (Code.region id l.toArray true).wp P Q a w := by
  simp only [Region.lexTailB, Bool.and_eq_true, decide_eq_true_eq] at hB
  obtain ⟨⟨⟨⟨hsel, hn⟩, hs⟩, hc⟩, hlex⟩ := hB
  have hn' : n < l.length := by simpa using hn
  have htl : (l.take n).length = n := by simp; omega
  have hdl : (l.drop n).length = l.toArray.size - n := by simp
  have inv0 : HeadInv .any l.toArray n (Array.replicate l.toArray.size false) :=
    ⟨by simp, fun j oj _ hl => (by rw [getD_replicate_false] at hl; cases hl), fun t _ ht => getD_in (by simpa using ht) (getD_replicate_false _ _)⟩
  have H := wpAnyLQ_lex (md := .any) (g := l.toArray.size - n) hsel hs hc hn (l.take n) 0 _ a (fun j hj => by
    have hj' : j < n := by rw [htl] at hj; exact hj
    simp [hj']) (by simpa using htl) inv0 (by rw [htl]; exact hlex) h
  refine wp_region_any hm ?_
  have := wpAny_of_headQ (Q' := Q) (g := l.toArray.size - n) (fun listed a' w' hw' hL => by
    obtain ⟨s, rfl⟩ := hw'
    have := wpAny_of_seq (md := .any) (Q' := Q) (l.drop n) n listed a' s.w (fun j => by simp [List.getElem?_drop]) (by rw [hdl]; exact hL.1) (hL.2 _ s.h)
    rwa [hdl] at this) _ _ _ _ ⟨(⟨_, (Below.refl _ _).drew⟩ : Ext w.heap.size w), rfl⟩ H
  rw [htl, show n + (l.toArray.size - n) = l.toArray.size by omega] at this
  exact this

/-! ### Arrays of integers -/
def ints (l : List Int) : List Value := l.map (Value.int .i64)

theorem run_eqItems_ints {P : Program} {e : TypeId} (he : P.underlying e = some (.int .i64)) (d : Nat) (w : World) (xs ys : Array Value) (f g : Nat → Int) :
    ∀ is : List Nat, (∀ i ∈ is, (part e xs (i * 1)).run P w = .ok (.int .i64 (f i)) w) → (∀ i ∈ is, (part e ys (i * 1)).run P w = .ok (.int .i64 (g i)) w) →
    (Op.eqItems (d + 1) e 1 xs ys is).run P w = .ok (is.all fun i => f i == g i) w
  | [], _, _ => by simp [Op.eqItems]
  | i :: is, hx, hy => by
    have ih := run_eqItems_ints he d w xs ys f g is (fun j hj => hx j (List.mem_cons_of_mem _ hj)) (fun j hj => hy j (List.mem_cons_of_mem _ hj))
    simp only [Op.eqItems, Sem.run_bind, hx i (by simp), hy i (by simp), Result.andThen_ok, run_equalIn_int w d e .i64 .i64 (f i) (g i) he]
    by_cases h : f i = g i
    · simp [h, ih]
    · simp [h]

theorem ret_bool {a b : Bool} (h : a = b) : Ending.returned (.bool a) = .returned (.bool b) := by rw [h]
theorem ret_int {k : IntKind} {a b : Int} (h : a = b) : Ending.returned (.int k a) = .returned (.int k b) := by rw [h]
theorem run_equalIn_arr2 {P : Program} {t e : TypeId} (hu : P.underlying t = some (.array 2 e)) (hi : ∃ i, P.info? e = some i) (he : P.underlying e = some (.int .i64)) (hc : P.cellsOf e = 1)
    (hp : ∀ (x y : Value) (w : World), (part e #[x, y] 0).run P w = .ok x w ∧ (part e #[x, y] 1).run P w = .ok y w) (a b a' b' : Int) (w : World) :
    (Op.equalIn 10000 t (.agg #[.int .i64 a, .int .i64 b]) (.agg #[.int .i64 a', .int .i64 b'])).run P w = .ok (a == a' && b == b') w := by
  obtain ⟨i, hi⟩ := hi
  rw [run_equalIn_array _ 9999 _ _ hu hi, hc]
  have := run_eqItems_ints he 9998 w #[.int .i64 a, .int .i64 b] #[.int .i64 a', .int .i64 b'] (fun i => if i = 0 then a else b) (fun i => if i = 0 then a' else b') (List.range 2)
    (by intro i hi; simp [List.range_succ] at hi; rcases hi with rfl | rfl <;> simp [hp]) (by intro i hi; simp [List.range_succ] at hi; rcases hi with rfl | rfl <;> simp [hp])
  rw [this]; simp [List.range_succ]
theorem run_equalIn_arr3 {P : Program} {t e : TypeId} (hu : P.underlying t = some (.array 3 e)) (hi : ∃ i, P.info? e = some i) (he : P.underlying e = some (.int .i64)) (hc : P.cellsOf e = 1)
    (hp : ∀ (x y z : Value) (w : World), (part e #[x, y, z] 0).run P w = .ok x w ∧ (part e #[x, y, z] 1).run P w = .ok y w ∧ (part e #[x, y, z] 2).run P w = .ok z w) (a b c a' b' c' : Int) (w : World) :
    (Op.equalIn 10000 t (.agg #[.int .i64 a, .int .i64 b, .int .i64 c]) (.agg #[.int .i64 a', .int .i64 b', .int .i64 c'])).run P w = .ok (a == a' && (b == b' && c == c')) w := by
  obtain ⟨i, hi⟩ := hi
  rw [run_equalIn_array _ 9999 _ _ hu hi, hc]
  have := run_eqItems_ints he 9998 w #[.int .i64 a, .int .i64 b, .int .i64 c] #[.int .i64 a', .int .i64 b', .int .i64 c'] (fun i => if i = 0 then a else if i = 1 then b else c) (fun i => if i = 0 then a' else if i = 1 then b' else c') (List.range 3)
    (by intro i hi; simp [List.range_succ] at hi; rcases hi with rfl | rfl | rfl <;> simp [hp]) (by intro i hi; simp [List.range_succ] at hi; rcases hi with rfl | rfl | rfl <;> simp [hp])
  rw [this]; simp [List.range_succ]
theorem run_equalIn_arr4 {P : Program} {t e : TypeId} (hu : P.underlying t = some (.array 4 e)) (hi : ∃ i, P.info? e = some i) (he : P.underlying e = some (.int .i64)) (hc : P.cellsOf e = 1)
    (hp : ∀ (x y z u : Value) (w : World), (part e #[x, y, z, u] 0).run P w = .ok x w ∧ (part e #[x, y, z, u] 1).run P w = .ok y w ∧ (part e #[x, y, z, u] 2).run P w = .ok z w ∧ (part e #[x, y, z, u] 3).run P w = .ok u w) (a b c d a' b' c' d' : Int) (w : World) :
    (Op.equalIn 10000 t (.agg #[.int .i64 a, .int .i64 b, .int .i64 c, .int .i64 d]) (.agg #[.int .i64 a', .int .i64 b', .int .i64 c', .int .i64 d'])).run P w = .ok (a == a' && (b == b' && (c == c' && d == d'))) w := by
  obtain ⟨i, hi⟩ := hi
  rw [run_equalIn_array _ 9999 _ _ hu hi, hc]
  have := run_eqItems_ints he 9998 w #[.int .i64 a, .int .i64 b, .int .i64 c, .int .i64 d] #[.int .i64 a', .int .i64 b', .int .i64 c', .int .i64 d'] (fun i => if i = 0 then a else if i = 1 then b else if i = 2 then c else d) (fun i => if i = 0 then a' else if i = 1 then b' else if i = 2 then c' else d') (List.range 4)
    (by intro i hi; simp [List.range_succ] at hi; rcases hi with rfl | rfl | rfl | rfl <;> simp [hp]) (by intro i hi; simp [List.range_succ] at hi; rcases hi with rfl | rfl | rfl | rfl <;> simp [hp])
  rw [this]; simp [List.range_succ]

/-! ### Arrays of integers that come in -/
section
variable {H : Type} {enc : TypeId × Value → H} {P : Program} {W : World} {t e : TypeId}
theorem arr_open {n : Nat} {k : IntKind} (hu : P.underlying t = some (.array n e)) (he : P.underlying e = some (.int k)) (hc : P.cellsOf t = n) (hce : P.cellsOf e = 1) {r : Reach} {b0 base : Nat} {sp : Nat → Bool} {held : Bool} {v : Value} {d : DataW H} {ps : List MemPlace}
    (hval : Value.okWide P W r b0 t v) (hd : DataW.Trod enc P W base sp held t v d ps) : ∃ xs : List Int, xs.length = n ∧ v = .agg (xs.map (Value.int k)).toArray ∧ ∀ x ∈ xs, (Lit.int k x).wf = true := by
  simp only [Value.okWide, hu] at hval
  obtain ⟨cs, rfl, h2, _⟩ := hval
  obtain ⟨fuel, hf⟩ := hd
  obtain ⟨ys, m, rfl, _, hl, hy, hall⟩ := DataW.trod_array hu hf
  have hel : ∀ i, i < n → ∃ x : Int, cs[i]? = some (.int k x) ∧ (Lit.int k x).wf = true := by
    intro i hi
    have h1 := hall i hi
    rw [hce] at h1
    obtain ⟨y, hy'⟩ : ∃ y, ys[i]? = some y := ⟨_, List.getElem?_eq_getElem (by omega)⟩
    rw [hy'] at h1
    obtain ⟨a, ea, rfl, wa⟩ := DataW.trod_int he h1
    refine ⟨a, ?_, wa⟩
    simp only [Nat.mul_one, Value.cells] at ea
    have h3 := congrArg (fun l => l[0]?) ea
    simp at h3
    exact h3
  have hsz : cs.size = n := by rw [h2, hc]
  refine ⟨cs.toList.map (fun v => match v with | .int _ x => x | _ => 0), by simp [hsz], ?_, ?_⟩
  · congr 1
    apply Array.ext
    · simp
    · intro i hi1 hi2
      obtain ⟨x, hx, _⟩ := hel i (by omega)
      have := (Array.getElem?_eq_some_iff.1 hx).2
      simp [this]
  · intro x hx
    simp only [List.mem_map] at hx
    obtain ⟨v, hv, rfl⟩ := hx
    obtain ⟨i, hi, rfl⟩ := List.getElem_of_mem hv
    obtain ⟨x, hx, wx⟩ := hel i (by simpa [hsz] using hi)
    have := (Array.getElem?_eq_some_iff.1 hx).2
    simp only [Array.getElem_toList, this]
    exact wx
theorem arr_open2 (hu : P.underlying t = some (.array 2 e)) (he : P.underlying e = some (.int .i64)) (hc : P.cellsOf t = 2) (hce : P.cellsOf e = 1) {r : Reach} {b0 base : Nat} {sp : Nat → Bool} {held : Bool} {v : Value} {d : DataW H} {ps : List MemPlace}
    (hval : Value.okWide P W r b0 t v) (hd : DataW.Trod enc P W base sp held t v d ps) : ∃ a b : Int, v = .agg #[.int .i64 a, .int .i64 b] ∧ (Lit.int .i64 a).wf = true ∧ (Lit.int .i64 b).wf = true := by
  obtain ⟨xs, hl, rfl, hw⟩ := arr_open hu he hc hce hval hd
  match xs, hl with
  | [a, b], _ => exact ⟨a, b, rfl, hw a (by simp), hw b (by simp)⟩
theorem arr_open3 (hu : P.underlying t = some (.array 3 e)) (he : P.underlying e = some (.int .i64)) (hc : P.cellsOf t = 3) (hce : P.cellsOf e = 1) {r : Reach} {b0 base : Nat} {sp : Nat → Bool} {held : Bool} {v : Value} {d : DataW H} {ps : List MemPlace}
    (hval : Value.okWide P W r b0 t v) (hd : DataW.Trod enc P W base sp held t v d ps) : ∃ a b c : Int, v = .agg #[.int .i64 a, .int .i64 b, .int .i64 c] ∧ (Lit.int .i64 a).wf = true ∧ (Lit.int .i64 b).wf = true ∧ (Lit.int .i64 c).wf = true := by
  obtain ⟨xs, hl, rfl, hw⟩ := arr_open hu he hc hce hval hd
  match xs, hl with
  | [a, b, c], _ => exact ⟨a, b, c, rfl, hw a (by simp), hw b (by simp), hw c (by simp)⟩
theorem arr_open4 (hu : P.underlying t = some (.array 4 e)) (he : P.underlying e = some (.int .i64)) (hc : P.cellsOf t = 4) (hce : P.cellsOf e = 1) {r : Reach} {b0 base : Nat} {sp : Nat → Bool} {held : Bool} {v : Value} {d : DataW H} {ps : List MemPlace}
    (hval : Value.okWide P W r b0 t v) (hd : DataW.Trod enc P W base sp held t v d ps) : ∃ a b c g : Int, v = .agg #[.int .i64 a, .int .i64 b, .int .i64 c, .int .i64 g] ∧ (Lit.int .i64 a).wf = true ∧ (Lit.int .i64 b).wf = true ∧ (Lit.int .i64 c).wf = true ∧ (Lit.int .i64 g).wf = true := by
  obtain ⟨xs, hl, rfl, hw⟩ := arr_open hu he hc hce hval hd
  match xs, hl with
  | [a, b, c, g], _ => exact ⟨a, b, c, g, rfl, hw a (by simp), hw b (by simp), hw c (by simp), hw g (by simp)⟩
end
theorem wf_bd {x : Int} (h : (Lit.int .i64 x).wf = true) : -9223372036854775808 ≤ x ∧ x ≤ 9223372036854775807 := by
  simp [Lit.wf, IntKind.min, IntKind.max, IntKind.bits, IntKind.signed] at h
  omega
end Go.Proofs.Ytencfmipplgnkaa
