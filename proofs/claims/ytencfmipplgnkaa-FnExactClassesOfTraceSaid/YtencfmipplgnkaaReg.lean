/- A region that draws its order, whose operations read, call what makes memory at most, and lay blocks of their own and fill them: one walk in an order that is told serves every order. -/
import Derived.Test.YtencfmipplgnkaaBase2
namespace Go.Proofs.Ytencfmipplgnkaa
open Go.RowKit

abbrev Blk := Nat × Array Value × TypeId
/-- The worlds above W that hold the blocks g. -/
structure InC (B : Nat) (W : World) (g : List Blk) (w : World) : Prop where
  below : Below B W w
  blk : ∀ x ∈ g, B ≤ x.1 ∧ w.heap[x.1]? = some (.cells x.2.1 x.2.2 (0, 0))

theorem InC.step {B : Nat} {W w w' : World} {g : List Blk} (h : InC B W g w) (hB : B ≤ W.heap.size) (hb : Below w.heap.size w w') : InC B W g w' :=
  ⟨h.below.trans (hb.mono (Nat.le_trans hB h.below.size)), fun x hx => ⟨(h.blk x hx).1, by
    have h1 := (h.blk x hx).2
    have hlt : x.1 < w.heap.size := (Array.getElem?_eq_some_iff.1 h1).1
    rw [← h1]; exact hb.block _ hlt⟩⟩

def bqUpon (P : Program) (w : World) (v : Value) : Result Next → Prop
  | .ok (.value u) w' => w' = w ∧ u = v
  | .ok .skip w' => w' = w ∧ v = undef
  | .ok (.enter f args) w' => w' = w ∧ Calls P f args w (fun e w'' => e = .returned v ∧ Below w.heap.size w w'')
  | _ => False
attribute [go_sem] bqUpon
def BQ (P : Program) (o : Oper) (a : Act) (B : Nat) (W : World) (v : Value) : Prop := ∀ w, Below B W w → bqUpon P w v ((execOp a.eval o).run P w)
def SP (P : Program) (o : Oper) (a : Act) (B : Nat) (W : World) (g : List Blk) (R : Value → List Blk → Prop) : Prop :=
  ∀ w, InC B W g w → ∃ v g' w', ((execOp a.eval o).run P w = .ok (.value v) w' ∨ ((execOp a.eval o).run P w = .ok .skip w' ∧ v = undef)) ∧ InC B W g' w' ∧ R v g'

section
variable {P : Program} {ops : Array Oper} {md : Region.Mode} {B : Nat} {W : World} {Q : Exit → Act → World → Prop}

def stepX (P : Program) (ops : Array Oper) (B : Nat) (W : World) (i : Nat) (K : Act → List Blk → Prop) (a : Act) (g : List Blk) : Prop :=
  match ops[i]? with
  | none => K a g
  | some o => if Region.wanted o (yielded ops a.tmps) then (∃ v, BQ P o a B W v ∧ K (a.put o.dst v) g) ∨ (∃ R, SP P o a B W g R ∧ ∀ v g', R v g' → K (a.put o.dst v) g') else K (a.put o.dst undef) g

theorem stepX_mono {i : Nat} {a : Act} {g : List Blk} {K K' : Act → List Blk → Prop} (h : ∀ a g, K a g → K' a g) (hh : stepX P ops B W i K a g) : stepX P ops B W i K' a g := by
  unfold stepX at *
  split
  · rename_i ho; simp only [ho] at hh; exact h _ _ hh
  · rename_i o ho
    simp only [ho] at hh
    split
    · rename_i hw
      simp only [hw, if_true] at hh
      rcases hh with ⟨v, h1, h2⟩ | ⟨R, h1, h2⟩
      · exact .inl ⟨v, h1, h _ _ h2⟩
      · exact .inr ⟨R, h1, fun v g' hr => h _ _ (h2 v g' hr)⟩
    · rename_i hw; simp only [hw] at hh; exact h _ _ hh

def wpX (P : Program) (md : Region.Mode) (ops : Array Oper) (B : Nat) (W : World) (Q : Exit → Act → World → Prop) : Nat → Array Bool → Act → List Blk → Prop
  | 0, listed, a, g => Region.ready md ops listed = [] ∧ ∀ w, InC B W g w → Q .normal a w
  | f + 1, listed, a, g => (Region.ready md ops listed = [] → ∀ w, InC B W g w → Q .normal a w) ∧
    ∀ i ∈ Region.ready md ops listed, stepX P ops B W i (wpX P md ops B W Q f (listed.setIfInBounds i true)) a g

theorem wpOp_of_stepX (hB : B ≤ W.heap.size) {i : Nat} {a : Act} {g : List Blk} {w : World} {K : Act → List Blk → Prop} {K' : Act → World → Prop} (hw : InC B W g w)
    (h : ∀ a g w, InC B W g w → K a g → K' a w) (hh : stepX P ops B W i K a g) : wpOp P ops Q i K' a w := by
  unfold stepX at hh
  unfold wpOp
  split
  · rename_i ho; simp only [ho] at hh; exact h _ _ _ hw hh
  · rename_i o ho
    simp only [ho] at hh
    split
    · rename_i hwant
      simp only [hwant, if_true] at hh
      refine .inl ?_
      unfold Oper.wp
      rcases hh with ⟨v, h1, h2⟩ | ⟨R, h1, h2⟩
      · have h3 := h1 w hw.below
        generalize (execOp a.eval o).run P w = r at *
        cases r with
        | ok n w' =>
          cases n <;> simp only [bqUpon] at h3 <;> simp only [Oper.upon]
          case value u => obtain ⟨rfl, rfl⟩ := h3; exact h _ _ _ hw h2
          case skip => obtain ⟨rfl, rfl⟩ := h3; exact h _ _ _ hw h2
          case enter f args =>
            obtain ⟨rfl, hc⟩ := h3
            exact hc.mono fun e w'' ⟨he, hb⟩ => by subst he; exact h _ _ _ (hw.step hB hb) h2
        | halt x w' => simp only [bqUpon] at h3
      · obtain ⟨v, g', w', hr, hc, hR⟩ := h1 w hw
        rcases hr with hr | ⟨hr, rfl⟩
        · rw [hr]; exact h _ _ _ hc (h2 _ _ hR)
        · rw [hr]; exact h _ _ _ hc (h2 _ _ hR)
    · rename_i hwant; simp only [hwant] at hh; exact h _ _ _ hw hh

theorem wpAny_of_X (hB : B ≤ W.heap.size) : ∀ (f : Nat) (listed : Array Bool) (a : Act) (g : List Blk) (w : World), InC B W g w → wpX P md ops B W Q f listed a g → wpAny P md ops Q f listed a w
  | 0, _, _, _, _, hw, h => ⟨h.1, h.2 _ hw⟩
  | f + 1, _, _, _, _, hw, h => ⟨fun h0 => h.1 h0 _ hw, fun i hi => wpOp_of_stepX hB hw (fun _ g' w' hw' h' => wpAny_of_X hB f _ _ g' w' hw' h') (h.2 i hi)⟩

def YieldsB (P : Program) (ops : Array Oper) (B : Nat) (W : World) (o : Oper) (v : Value) (a : Act) : Prop :=
  (Region.wanted o (yielded ops a.tmps) = true ∧ BQ P o a B W v) ∨ (Region.wanted o (yielded ops a.tmps) = false ∧ v = undef)

theorem YieldsB.stepX {i : Nat} {o : Oper} {v : Value} {a : Act} {g : List Blk} (hi : ops[i]? = some o) (hy : YieldsB P ops B W o v a) {K : Act → List Blk → Prop} (h : K (a.put o.dst v) g) : stepX P ops B W i K a g := by
  unfold Go.Proofs.Ytencfmipplgnkaa.stepX
  simp only [hi]
  rcases hy with ⟨hw, hv⟩ | ⟨hw, rfl⟩
  · simp only [hw, if_true]; exact .inl ⟨v, hv, h⟩
  · simp only [hw, Bool.false_eq_true, if_false]; exact h

theorem YieldsB.of_same {o : Oper} {v : Value} {a a' : Act} (hy : YieldsB P ops B W o v a) (he : execOp a'.eval o = execOp a.eval o)
    (hw : Region.wanted o (yielded ops a'.tmps) = Region.wanted o (yielded ops a.tmps)) : YieldsB P ops B W o v a' := by
  unfold YieldsB BQ at *
  rw [he, hw]
  exact hy

theorem stepX_put {j : Nat} {oi oj : Oper} {v : Value} (hj : ops[j]? = some oj) (hap : oi.apart ops oj = true)
    (hsi : ∀ cs b, oi.op ≠ .select cs b) (hsj : ∀ cs b, oj.op ≠ .select cs b) {K : Act → List Blk → Prop} {a : Act} {g : List Blk}
    (hy : YieldsB P ops B W oi v a) (h : stepX P ops B W j K (a.put oi.dst v) g) :
    stepX P ops B W j (fun a' g' => YieldsB P ops B W oi v a' ∧ K (a'.put oi.dst v) g') a g := by
  obtain ⟨h1, h2, h3⟩ := Oper.apart_spec hap
  have keep : ∀ (a : Act), YieldsB P ops B W oi v a → ∀ u, YieldsB P ops B W oi v (a.put oj.dst u) := fun a hy u =>
    hy.of_same (execOp_put oi hsi a oj.dst u h3) (wanted_put oi a oj.dst u h3)
  unfold stepX at *
  simp only [hj] at *
  rw [wanted_put oj a oi.dst v h1] at h
  split
  · rename_i hw
    simp only [hw, if_true] at h
    rcases h with ⟨u, hu, hn⟩ | ⟨R, hR, hn⟩
    · refine .inl ⟨u, fun w hw' => ?_, keep a hy u, by rw [← Act.put_comm a v u h2]; exact hn⟩
      have := hu w hw'
      rwa [execOp_put oj hsj a oi.dst v h1] at this
    · refine .inr ⟨R, fun w hw' => ?_, fun u g' hr => ⟨keep a hy u, by rw [← Act.put_comm a v u h2]; exact hn u g' hr⟩⟩
      have := hR w hw'
      rwa [execOp_put oj hsj a oi.dst v h1] at this
  · rename_i hw
    simp only [hw] at h
    exact ⟨keep a hy _, by rw [← Act.put_comm a v undef h2]; exact h⟩

theorem wpX_first {i : Nat} {oi : Oper} {v : Value} (hi : ops[i]? = some oi) (hsel : ∀ (j : Nat) (o : Oper) cs b, ops[j]? = some o → o.op ≠ .select cs b) :
    ∀ (f : Nat) (listed : Array Bool) (a : Act) (g : List Blk),
      (∀ j oj, ops[j]? = some oj → j ≠ i → listed.getD j true = false → (∀ e ∈ oj.after, Region.binds md e = true → e.on ≠ i) → oi.apart ops oj = true) →
      i ∈ Region.ready md ops listed → YieldsB P ops B W oi v a →
      wpX P md ops B W Q f (listed.setIfInBounds i true) (a.put oi.dst v) g → wpX P md ops B W Q (f + 1) listed a g := by
  intro f
  induction f with
  | zero =>
    intro listed a g _ hr hy H
    refine ⟨fun h => (by rw [h] at hr; cases hr), fun j hj => ?_⟩
    by_cases hji : j = i
    · subst hji; exact hy.stepX hi H
    · have := ready_mono hj hji
      rw [H.1] at this
      cases this
  | succ f ih =>
    intro listed a g hfree hr hy H
    refine ⟨fun h => (by rw [h] at hr; cases hr), fun j hj => ?_⟩
    by_cases hji : j = i
    · subst hji; exact hy.stepX hi H
    · have h1 := H.2 j (ready_mono hj hji)
      obtain ⟨hjun, oj, hoj, hall⟩ := mem_ready.1 hj
      have hnot : ∀ e ∈ oj.after, Region.binds md e = true → e.on ≠ i := fun e he hb heq => by
        have h1 := hall e he hb
        have h0 := (mem_ready.1 hr).1
        rw [heq] at h1
        rcases Nat.lt_or_ge i listed.size with h' | h'
        · simp [h'] at h0 h1; rw [h0] at h1; cases h1
        · simp [Array.getElem?_eq_none h'] at h1
      have h2 := stepX_put hoj (hfree j oj hoj hji hjun hnot) (fun cs b => hsel i oi cs b hi) (fun cs b => hsel j oj cs b hoj) hy h1
      have hfree' : ∀ k ok, ops[k]? = some ok → k ≠ i → (listed.setIfInBounds j true).getD k true = false →
          (∀ e ∈ ok.after, Region.binds md e = true → e.on ≠ i) → oi.apart ops ok = true := fun k ok hk hki hun hno => by
        refine hfree k ok hk hki ?_ hno
        by_cases hjk : j = k
        · subst hjk; exact hjun
        · rw [getD_set_ne true hjk] at hun; exact hun
      refine stepX_mono (fun a' g' h3 => ih (listed.setIfInBounds j true) a' g' hfree' (ready_mono hr (Ne.symm hji)) h3.1 ?_) h2
      rw [Array.setIfInBounds_comm _ _ hji]
      exact h3.2

/-! ### The order that is told: (place, is it one that lays or fills a block) -/
def Region.ordB (md : Region.Mode) (ops : Array Oper) : List (Nat × Bool) → Array Bool → Bool
  | [], listed => (Region.ready md ops listed).isEmpty
  | (k, false) :: r, listed => (Region.ready md ops listed).contains k && Region.free md ops listed k && Region.ordB md ops r (listed.setIfInBounds k true)
  | (k, true) :: r, listed => decide (Region.ready md ops listed = [k]) && Region.ordB md ops r (listed.setIfInBounds k true)

def wpOrd (P : Program) (ops : Array Oper) (B : Nat) (W : World) (Q : Act → World → Prop) : List (Nat × Bool) → Act → List Blk → Prop
  | [], a, g => ∀ w, InC B W g w → Q a w
  | (k, _) :: r, a, g => ∃ o, ops[k]? = some o ∧ ((∃ v, YieldsB P ops B W o v a ∧ wpOrd P ops B W Q r (a.put o.dst v) g) ∨
      (Region.wanted o (yielded ops a.tmps) = true ∧ ∃ R, SP P o a B W g R ∧ ∀ v g', R v g' → wpOrd P ops B W Q r (a.put o.dst v) g'))

def wpOrdQ (P : Program) (ops : Array Oper) (B : Nat) (W : World) (Q : Act → World → Prop) : List (Nat × Bool) → Act → List Blk → Prop
  | [], a, g => ∀ w, InC B W g w → Q a w
  | (k, false) :: r, a, g => ∃ o, ops[k]? = some o ∧ ∃ v, YieldsB P ops B W o v a ∧ wpOrdQ P ops B W Q r (a.put o.dst v) g
  | (k, true) :: r, a, g => ∃ o, ops[k]? = some o ∧ Region.wanted o (yielded ops a.tmps) = true ∧ ∃ R, SP P o a B W g R ∧ ∀ v g', R v g' → wpOrdQ P ops B W Q r (a.put o.dst v) g'

theorem wpX_of_ord (hs : Region.noSelect ops = true) : ∀ (l : List (Nat × Bool)) (listed : Array Bool) (a : Act) (g : List Blk),
    Region.ordB md ops l listed = true → wpOrdQ P ops B W (Q .normal) l a g → wpX P md ops B W Q l.length listed a g
  | [], listed, a, g, hB, h => ⟨by simpa [Region.ordB] using hB, h⟩
  | (k, false) :: r, listed, a, g, hB, h => by
    obtain ⟨o, ho, v, hy, h⟩ := h
    simp only [Region.ordB, Bool.and_eq_true] at hB
    obtain ⟨⟨hr, hf⟩, hB'⟩ := hB
    exact wpX_first ho (Region.noSelect_spec hs) r.length listed a g (Region.free_spec ho hf) (by simpa using hr) hy (wpX_of_ord hs r _ _ g hB' h)
  | (k, true) :: r, listed, a, g, hB, h => by
    obtain ⟨o, ho, hw, R, hR, h⟩ := h
    simp only [Region.ordB, Bool.and_eq_true, decide_eq_true_eq] at hB
    refine ⟨fun h0 => (by rw [hB.1] at h0; cases h0), fun i hi => ?_⟩
    rw [hB.1] at hi
    obtain rfl : i = k := by simpa using hi
    unfold stepX
    simp only [ho, hw, if_true]
    exact .inr ⟨R, hR, fun v g' hr => wpX_of_ord hs r _ _ g' hB.2 (h v g' hr)⟩
end

theorem wp_region_ord {P : Program} {id : Nat} {Q : Exit → Act → World → Prop} {a : Act} {w : World} {l : List Oper} (ord : List (Nat × Bool)) (hm : P.follows .mixedOrders = true)
    (hB : (Region.noSelect l.toArray && decide (ord.length = l.length) && Region.ordB .any l.toArray ord (Array.replicate l.length false)) = true)
    (h : wpOrdQ P l.toArray w.heap.size w (Q .normal) ord a []) : (Code.region id l.toArray true).wp P Q a w := by
  simp only [Bool.and_eq_true, decide_eq_true_eq] at hB
  obtain ⟨⟨hsel, hl⟩, hord⟩ := hB
  refine wp_region_any hm ?_
  have h1 := wpX_of_ord (md := .any) hsel ord _ a [] hord h
  have := wpAny_of_X (md := .any) (Nat.le_refl _) _ _ a [] { w with drawn := w.drawn + 1 } ⟨(Below.refl _ _).drew, by simp⟩ h1
  rw [hl] at this
  simpa using this

/-! ### Its steps -/
section
variable {P : Program} {ops : Array Oper} {B : Nat} {W : World} {Q : Act → World → Prop} {a : Act} {g : List Blk} {k : Nat} {r : List (Nat × Bool)}
theorem ord_q {o : Oper} {v : Value} (ho : ops[k]? = some o) (hw : Region.wanted o (yielded ops a.tmps) = true) (hq : ∀ w, Below B W w → bqUpon P w v ((execOp a.eval o).run P w)) (h : wpOrdQ P ops B W Q r (a.put o.dst v) g) :
    wpOrdQ P ops B W Q ((k, false) :: r) a g := ⟨o, ho, v, .inl ⟨hw, hq⟩, h⟩
theorem ord_skip {o : Oper} (ho : ops[k]? = some o) (hw : Region.wanted o (yielded ops a.tmps) = false) (h : wpOrdQ P ops B W Q r (a.put o.dst undef) g) :
    wpOrdQ P ops B W Q ((k, false) :: r) a g := ⟨o, ho, undef, .inr ⟨hw, rfl⟩, h⟩
theorem InC.alloc {w : World} {z : Array Value} {t : TypeId} (hB : B ≤ W.heap.size) (h : InC B W g w) : InC B W (g ++ [(w.heap.size, z, t)]) (w.alloc (.cells z t)) := by
  have hs := h.below.size
  refine ⟨h.below.alloc (Nat.le_trans hB hs) _, fun x hx => ?_⟩
  rcases List.mem_append.1 hx with hx | hx
  · have h1 := h.blk x hx
    refine ⟨h1.1, ?_⟩
    have hlt := (Array.getElem?_eq_some_iff.1 h1.2).1
    simp only [World.alloc, Array.getElem?_push]
    rw [if_neg (by omega)]; exact h1.2
  · simp at hx; subst hx
    exact ⟨Nat.le_trans hB hs, by show (w.heap.push _)[w.heap.size]? = _; simp⟩
/-- A block of one's own is laid. -/
theorem ord_alloc {o : Oper} {z : Array Value} {t : TypeId} (hB : B ≤ W.heap.size) (ho : ops[k]? = some o) (hw : Region.wanted o (yielded ops a.tmps) = true)
    (hrun : ∀ w, (execOp a.eval o).run P w = .ok (.value (.pointer (some ⟨w.heap.size, 0, none⟩))) (w.alloc (.cells z t)))
    (h : ∀ b, B ≤ b → (∀ x ∈ g, x.1 ≠ b) → wpOrdQ P ops B W Q r (a.put o.dst (.pointer (some ⟨b, 0, none⟩))) (g ++ [(b, z, t)])) :
    wpOrdQ P ops B W Q ((k, true) :: r) a g := by
  refine ⟨o, ho, hw, fun v g' => ∃ b, B ≤ b ∧ (∀ x ∈ g, x.1 ≠ b) ∧ v = .pointer (some ⟨b, 0, none⟩) ∧ g' = g ++ [(b, z, t)], fun w hc => ?_, ?_⟩
  · refine ⟨_, _, _, .inl (hrun w), hc.alloc hB, w.heap.size, Nat.le_trans hB hc.below.size, fun x hx => ?_, rfl, rfl⟩
    have := (Array.getElem?_eq_some_iff.1 (hc.blk x hx).2).1
    omega
  · rintro v g' ⟨b, h1, h2, rfl, rfl⟩
    exact h b h1 h2
def putBlk (b : Nat) (c : Array Value) (g : List Blk) : List Blk := g.map fun x => if x.1 = b then (b, c, x.2.2) else x
theorem InC.put {w w' : World} {b : Nat} {c : Array Value} (h : InC B W g w) (hb : B ≤ b) (hw : ∀ o t, w.heap[b]? = some (.cells o t (0, 0)) → (∃ x ∈ g, x.1 = b) → w'.heap[b]? = some (.cells c t (0, 0))) (hg : Below B w w') (hk : ∀ i, i ≠ b → w'.heap[i]? = w.heap[i]?) :
    InC B W (putBlk b c g) w' := by
  refine ⟨h.below.trans hg, fun x hx => ?_⟩
  simp only [putBlk, List.mem_map] at hx
  obtain ⟨y, hy, rfl⟩ := hx
  have h1 := h.blk y hy
  split
  · rename_i e; refine ⟨hb, hw y.2.1 _ (by rw [← e]; exact h1.2) ⟨y, hy, e⟩⟩
  · rename_i e; exact ⟨h1.1, by rw [hk _ e]; exact h1.2⟩
end

theorem heap_set_same {w : World} {b o : Nat} {c : Array Value} {t : TypeId} {v : Value} (h : w.heap[b]? = some (.cells c t (0, 0))) : (w.setCell ⟨b, o, none⟩ v).heap[b]? = some (.cells (c.setIfInBounds o v) t (0, 0)) := by
  simp [World.setCell, Array.getElem?_modify, h]
theorem heap_set_other {w : World} {b o i : Nat} {v : Value} (h : i ≠ b) : (w.setCell ⟨b, o, none⟩ v).heap[i]? = w.heap[i]? := by
  simp [World.setCell, Array.getElem?_modify]
  intro e; exact absurd e.symm h
/-- What is known of a block that is held. -/
theorem cell_of_blk {w : World} {b : Nat} {c : Array Value} {t : TypeId} (h : w.heap[b]? = some (.cells c t (0, 0))) (o : Nat) : w.cell? ⟨b, o, none⟩ = c[o]? := by
  simp [World.cell?, h]
theorem frozen_of_blk {w : World} {b : Nat} {c : Array Value} {t : TypeId} (h : w.heap[b]? = some (.cells c t (0, 0))) (o : Nat) : w.frozen? ⟨b, o, none⟩ = false := by
  simp [World.frozen?, h]
theorem lt_of_blk {w : World} {b : Nat} {x : Obj} (h : w.heap[b]? = some x) : b < w.heap.size := (Array.getElem?_eq_some_iff.1 h).1
section
variable {P : Program} {ops : Array Oper} {B : Nat} {W : World} {Q : Act → World → Prop} {a : Act} {g : List Blk} {k : Nat} {r : List (Nat × Bool)}
theorem ord_store {o : Oper} {b : Nat} {c c' : Array Value} {t : TypeId} (f : World → World) (ho : ops[k]? = some o) (hw : Region.wanted o (yielded ops a.tmps) = true) (hb : B ≤ b) (hm : (b, c, t) ∈ g)
    (hrun : ∀ w, (∀ i, w.cell? ⟨b, i, none⟩ = c[i]?) → (∀ i, w.frozen? ⟨b, i, none⟩ = false) → (execOp a.eval o).run P w = .ok .skip (f w))
    (hf : ∀ w, w.heap[b]? = some (.cells c t (0, 0)) → (f w).heap[b]? = some (.cells c' t (0, 0)))
    (hf2 : ∀ w i, i ≠ b → (f w).heap[i]? = w.heap[i]?) (hf3 : ∀ w, Below B w (f w))
    (h : wpOrdQ P ops B W Q r (a.put o.dst undef) (putBlk b c' g)) : wpOrdQ P ops B W Q ((k, true) :: r) a g := by
  refine ⟨o, ho, hw, fun v g' => v = undef ∧ g' = putBlk b c' g, fun w hc => ?_, ?_⟩
  · have h1 := (hc.blk _ hm).2
    refine ⟨undef, _, f w, .inr ⟨hrun w (fun i => cell_of_blk h1 i) (fun i => frozen_of_blk h1 i), rfl⟩, hc.put hb (fun o t' e _ => ?_) (hf3 w) (fun i hi => hf2 w i hi), rfl, rfl⟩
    rw [h1] at e
    injection e with e
    injection e with e1 e2
    subst e2
    exact hf w h1
  · rintro v g' ⟨rfl, rfl⟩
    exact h
theorem ord_store2 {o : Oper} {b : Nat} {t : TypeId} {u0 u1 : Value} (x y : Value) (ho : ops[k]? = some o) (hw : Region.wanted o (yielded ops a.tmps) = true) (hb : B ≤ b) (hm : (b, #[u0, u1], t) ∈ g)
    (hrun : ∀ w, (w.cell? ⟨b, 0, none⟩ = some u0 ∧ w.cell? ⟨b, 1, none⟩ = some u1) → (∀ i, w.frozen? ⟨b, i, none⟩ = false) →
      (execOp a.eval o).run P w = .ok .skip ((w.setCell ⟨b, 0, none⟩ x).setCell ⟨b, 1, none⟩ y))
    (h : wpOrdQ P ops B W Q r (a.put o.dst undef) (putBlk b #[x, y] g)) : wpOrdQ P ops B W Q ((k, true) :: r) a g := by
  refine ord_store (f := fun w => (w.setCell ⟨b, 0, none⟩ x).setCell ⟨b, 1, none⟩ y) (c := #[u0, u1]) ho hw hb hm (fun w h1 h2 => hrun w ⟨h1 0, h1 1⟩ h2) ?_ ?_ ?_ h
  · intro w h1; simpa using heap_set_same (o := 1) (v := y) (heap_set_same (o := 0) (v := x) h1)
  · intro w i hi; rw [heap_set_other hi, heap_set_other hi]
  · intro w; exact ((Below.refl _ _).setCell hb _).setCell hb _
theorem ord_store3 {o : Oper} {b : Nat} {t : TypeId} {u0 u1 u2 : Value} (x y z : Value) (ho : ops[k]? = some o) (hw : Region.wanted o (yielded ops a.tmps) = true) (hb : B ≤ b) (hm : (b, #[u0, u1, u2], t) ∈ g)
    (hrun : ∀ w, (w.cell? ⟨b, 0, none⟩ = some u0 ∧ w.cell? ⟨b, 1, none⟩ = some u1 ∧ w.cell? ⟨b, 2, none⟩ = some u2) → (∀ i, w.frozen? ⟨b, i, none⟩ = false) →
      (execOp a.eval o).run P w = .ok .skip (((w.setCell ⟨b, 0, none⟩ x).setCell ⟨b, 1, none⟩ y).setCell ⟨b, 2, none⟩ z))
    (h : wpOrdQ P ops B W Q r (a.put o.dst undef) (putBlk b #[x, y, z] g)) : wpOrdQ P ops B W Q ((k, true) :: r) a g := by
  refine ord_store (f := fun w => ((w.setCell ⟨b, 0, none⟩ x).setCell ⟨b, 1, none⟩ y).setCell ⟨b, 2, none⟩ z) (c := #[u0, u1, u2]) ho hw hb hm (fun w h1 h2 => hrun w ⟨h1 0, h1 1, h1 2⟩ h2) ?_ ?_ ?_ h
  · intro w h1; simpa using heap_set_same (o := 2) (v := z) (heap_set_same (o := 1) (v := y) (heap_set_same (o := 0) (v := x) h1))
  · intro w i hi; rw [heap_set_other hi, heap_set_other hi, heap_set_other hi]
  · intro w; exact (((Below.refl _ _).setCell hb _).setCell hb _).setCell hb _
theorem ord_store4 {o : Oper} {b : Nat} {t : TypeId} {u0 u1 u2 u3 : Value} (x y z u : Value) (ho : ops[k]? = some o) (hw : Region.wanted o (yielded ops a.tmps) = true) (hb : B ≤ b) (hm : (b, #[u0, u1, u2, u3], t) ∈ g)
    (hrun : ∀ w, (w.cell? ⟨b, 0, none⟩ = some u0 ∧ w.cell? ⟨b, 1, none⟩ = some u1 ∧ w.cell? ⟨b, 2, none⟩ = some u2 ∧ w.cell? ⟨b, 3, none⟩ = some u3) → (∀ i, w.frozen? ⟨b, i, none⟩ = false) →
      (execOp a.eval o).run P w = .ok .skip ((((w.setCell ⟨b, 0, none⟩ x).setCell ⟨b, 1, none⟩ y).setCell ⟨b, 2, none⟩ z).setCell ⟨b, 3, none⟩ u))
    (h : wpOrdQ P ops B W Q r (a.put o.dst undef) (putBlk b #[x, y, z, u] g)) : wpOrdQ P ops B W Q ((k, true) :: r) a g := by
  refine ord_store (f := fun w => (((w.setCell ⟨b, 0, none⟩ x).setCell ⟨b, 1, none⟩ y).setCell ⟨b, 2, none⟩ z).setCell ⟨b, 3, none⟩ u) (c := #[u0, u1, u2, u3]) ho hw hb hm (fun w h1 h2 => hrun w ⟨h1 0, h1 1, h1 2, h1 3⟩ h2) ?_ ?_ ?_ h
  · intro w h1; simpa using heap_set_same (o := 3) (v := u) (heap_set_same (o := 2) (v := z) (heap_set_same (o := 1) (v := y) (heap_set_same (o := 0) (v := x) h1)))
  · intro w i hi; rw [heap_set_other hi, heap_set_other hi, heap_set_other hi, heap_set_other hi]
  · intro w; exact ((((Below.refl _ _).setCell hb _).setCell hb _).setCell hb _).setCell hb _
end
end Go.Proofs.Ytencfmipplgnkaa
