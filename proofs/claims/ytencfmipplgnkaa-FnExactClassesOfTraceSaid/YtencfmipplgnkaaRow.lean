/- Rows of a call's own: general words, no program in sight. -/
import Derived.Test.YtencfmipplgnkaaBox
import Derived.Laws.AppendOwn
import Derived.Laws.OwnMore
import Derived.Laws.MakeOwn
import Derived.OwnWalk
import Derived.Deep.Onto
import Derived.Maps.AppendAt
namespace Go.Proofs.Ytencfmipplgnkaa
open Go.RowKit
section
variable {w w' : World} {B B' z z' n n' : Nat} {E E' : TypeId} {v v' : Value} {xs xs' : List Value}
theorem grown_of_below {row : Option Nat} (hb : Below w.heap.size w w') : w.grownBy w' row := ⟨hb.os, hb.tape, hb.output, hb.size, fun k hk _ => hb.block k hk⟩
theorem own_below (h : w.ownsRow B E z v n xs) (hb : Below w.heap.size w w') : w'.ownsRow B E z v n xs :=
  h.kept (row := none) (grown_of_below hb) (by cases v.ownBlock <;> simp)
/-- Another row is written: this one stays. -/
theorem own_far (h : w.ownsRow B E z v n xs) (hg : w.grownBy w' v'.ownBlock) (hne : ∀ k, v'.ownBlock = some k → B' ≤ k) (hlt : ∀ k, v.ownBlock = some k → k < B') : w'.ownsRow B E z v n xs := by
  refine h.kept hg ?_
  cases hv : v.ownBlock with
  | none => exact .inl rfl
  | some k => exact .inr fun e => by have := hlt k hv; have := hne k e.symm; omega
theorem own_lt (h : w.ownsRow B E z v n xs) {k : Nat} (hk : v.ownBlock = some k) : k < w.heap.size := (h.lt k hk).2
theorem own_ge (h : w.ownsRow B E z v n xs) {k : Nat} (hk : v.ownBlock = some k) : B ≤ k := (h.lt k hk).1
/-- What reads of a row. -/
def RowAt (w : World) (B : Nat) (A : Option Addr) (n : Nat) (xs : List Value) : Prop :=
  0 < n → ∃ b, A = some ⟨b, 0, none⟩ ∧ B ≤ b ∧ b < w.heap.size ∧ (∀ j u, xs[j]? = some u → w.cell? ⟨b, j, none⟩ = some u) ∧ ∀ j, w.frozen? ⟨b, j, none⟩ = false
theorem RowAt.below {A : Option Addr} (h : RowAt w B A n xs) (hb : Below w.heap.size w w') : RowAt w' B A n xs := fun hn => by
  obtain ⟨b, hA, hB, hl, hc, hf⟩ := h hn
  exact ⟨b, hA, hB, Nat.lt_of_lt_of_le hl hb.size, fun j u hu => (hb.cell (p := ⟨b, j, none⟩) hl).trans (hc j u hu), fun j => (hb.frozen (p := ⟨b, j, none⟩) hl).trans (hf j)⟩
theorem own_view (h : w.ownsRow B E z v n xs) : ∃ A cap, v = .slice A n cap ∧ n ≤ cap ∧ cap ≤ maxLen ∧ RowAt w B A n xs := by
  rcases h.2 with ⟨rfl, rfl⟩ | ⟨g, cap, cur, rfl, hB, hh, hn, hm, hs, ht⟩
  · exact ⟨none, 0, rfl, Nat.le_refl _, by simp [maxLen], fun hh => absurd hh (by omega)⟩
  · refine ⟨some ⟨g, 0, none⟩, cap, rfl, hn, hm, fun _ => ⟨g, rfl, hB, lt_of_blk hh, fun j u hu => ?_, fun j => frozen_of_blk hh j⟩⟩
    rw [cell_of_blk hh j]
    rw [← ht, List.getElem?_take] at hu
    split at hu
    · simpa using hu
    · cases hu
theorem own_at {A : Option Addr} {cap : Nat} (h : w.ownsRow B E z (.slice A n cap) n xs) : RowAt w B A n xs := by
  obtain ⟨A', cap', e, _, _, h⟩ := own_view h
  injection e with e1 e2 e3
  subst e1; exact h
theorem own_len (h : w.ownsRow B E z v n xs) : n ≤ maxLen := by
  obtain ⟨A, cap, _, h1, h2, _⟩ := own_view h; omega
/-- A cell of a row is stored. -/
theorem own_set {b cap j : Nat} {u : Value} (h : w.ownsRow B E z (.slice (some ⟨b, 0, none⟩) n cap) n xs) :
    (w.setCell ⟨b, j, none⟩ u).ownsRow B E z (.slice (some ⟨b, 0, none⟩) n cap) n (xs.set j u) := by
  obtain ⟨h1, h2⟩ := h
  rcases h2 with ⟨he, _⟩ | ⟨g, c, cur, he, hB, hh, hn, hm, hs, ht⟩
  · cases he
  · injection he with e1 e2 e3
    injection e1 with e1
    injection e1 with e1
    subst e1; subst e3
    refine ⟨by simp [h1], .inr ⟨b, cap, _, rfl, hB, heap_set_same hh, hn, hm, by simp [hs], ?_⟩⟩
    rw [Array.toList_setIfInBounds, List.take_set, ht]
theorem grown_set {b j : Nat} {u : Value} : w.grownBy (w.setCell ⟨b, j, none⟩ u) (some b) :=
  ⟨rfl, rfl, rfl, by simp [World.setCell], fun k _ hne => Below.heap_setCell w _ u k (fun e => hne (by rw [e]))⟩
theorem grown_trans' {a b c : World} {row : Option Nat} (h : a.grownBy b row) (k : b.grownBy c row) : a.grownBy c row :=
  ⟨k.os.trans h.os, k.tape.trans h.tape, k.output.trans h.output, Nat.le_trans h.size k.size, fun i hi hne => (k.block i (Nat.lt_of_lt_of_le hi h.size) hne).trans (h.block i hi hne)⟩
theorem grown_refl' (a : World) (row : Option Nat) : a.grownBy a row := ⟨rfl, rfl, rfl, Nat.le_refl _, fun _ _ _ => rfl⟩
theorem grown_drewN' {a b : World} {row : Option Nat} (h : a.grownBy b row) (k : Nat) : a.grownBy (b.drewN k) row := ⟨h.os, h.tape, h.output, h.size, h.block⟩
end
/-! ### Marks -/
/-- Of m cells the first j are marked, from k on; the others are as xs. -/
def marks (k : Int) (xs : List Value) (j : Nat) : List Value := (List.range j).map (fun i : Nat => .int .i64 (k + i)) ++ xs.drop j
theorem marks_zero (k : Int) (xs : List Value) : marks k xs 0 = xs := by simp [marks]
theorem marks_len {k : Int} {xs : List Value} {j : Nat} (h : j ≤ xs.length) : (marks k xs j).length = xs.length := by simp [marks]; omega
theorem marks_set {k : Int} {xs : List Value} {j : Nat} (h : j < xs.length) : (marks k xs j).set j (.int .i64 (k + j)) = marks k xs (j + 1) := by
  unfold marks
  apply List.ext_getElem?
  intro i
  rw [List.getElem?_set]
  simp only [List.length_append, List.length_map, List.length_range, List.length_drop]
  rcases Nat.lt_trichotomy i j with hi | hi | hi
  · rw [if_neg (by omega), List.getElem?_append_left (by simpa using hi), List.getElem?_append_left (by simp; omega)]
    simp [hi, show i < j + 1 by omega]
  · subst hi
    rw [if_pos rfl, if_pos (by omega), List.getElem?_append_left (by simp)]
    simp
  · rw [if_neg (by omega), List.getElem?_append_right (by simp; omega), List.getElem?_append_right (by simp; omega)]
    simp only [List.length_map, List.length_range, List.getElem?_drop]
    congr 1; omega
def allMarks (k : Int) (m : Nat) : List Value := (List.range m).map (fun i : Nat => .int .i64 (k + i))
theorem marks_all {k : Int} {xs : List Value} : marks k xs xs.length = allMarks k xs.length := by simp [marks, allMarks]
theorem allMarks_at {k : Int} {m i : Nat} (h : i < m) : (allMarks k m)[i]? = some (.int .i64 (k + i)) := by simp [allMarks, h]
theorem marks_cell {k : Int} {xs : List Value} {j i : Nat} (hx : ∀ u ∈ xs, ∃ x : Int, u = .int .i64 x) (hi : i < xs.length) : ∃ x : Int, (marks k xs j)[i]? = some (.int .i64 x) := by
  unfold marks
  by_cases h : i < j
  · exact ⟨k + i, by rw [List.getElem?_append_left (by simpa using h)]; simp [h]⟩
  · obtain ⟨x, hx⟩ := hx _ (List.getElem_mem (l := xs) hi)
    refine ⟨x, ?_⟩
    rw [List.getElem?_append_right (by simp; omega)]
    simp only [List.length_map, List.length_range, List.getElem?_drop]
    rw [show j + (i - j) = i by omega, List.getElem?_eq_getElem hi, hx]
/-- The element type of a slice type, with its zero and its size. -/
structure Elem (P : Program) (t e : TypeId) (z : Value) (size bytes : Nat) : Prop where
  und : P.underlying t = some (.slice e)
  info : ∃ i, P.info? e = some i ∧ i.zero = some z ∧ i.size = size ∧ i.bytes = bytes
  cells : z.cells.size = size
  pos : 0 < size
  small : bytes ≤ 100
theorem elem_of {P : Program} {t e : TypeId} {z : Value} {size bytes : Nat} (hu : P.underlying t = some (.slice e)) (h : (P.info? e).map (fun i => (i.zero, i.size, i.bytes)) = some (some z, size, bytes)) (h2 : z.cells.size = size) (h3 : 0 < size) (h4 : bytes ≤ 100) : Elem P t e z size bytes := by
  obtain ⟨i, hi, h5⟩ := Option.map_eq_some_iff.1 h
  simp only [Prod.mk.injEq] at h5
  exact ⟨hu, ⟨i, hi, h5.1, h5.2.1, h5.2.2⟩, h2, h3, h4⟩
/-- What an append does to the world and to the row's place. -/
structure App (wr w' : World) (v v' : Value) : Prop where
  grown : wr.grownBy w' v.ownBlock
  sit : ∀ k, v'.ownBlock = some k → v.ownBlock = some k ∨ wr.heap.size ≤ k
/-- Above w0 only block g0 has turned, and the row v lies there or in a new block. -/
structure Lies (g0 : Nat) (w0 : World) (v : Value) (w : World) : Prop where
  grown : w0.grownBy w (some g0)
  sit : ∀ k, v.ownBlock = some k → k = g0 ∨ w0.heap.size ≤ k
theorem below_mark {w0 w w' : World} {v : Value} {B n z : Nat} {E : TypeId} {xs : List Value} (hb : Below w0.heap.size w0 w) (h : w.ownsRow B E z v n xs) (hg : w.grownBy w' v.ownBlock) (hB : w0.heap.size ≤ B) : Below w0.heap.size w0 w' :=
  hb.grown hg hb.size (fun _ hk => Nat.le_trans hB (own_ge h hk))
theorem RowAt.far {w w' : World} {v : Value} {A : Option Addr} {B B' n n' z : Nat} {E : TypeId} {xs xs' : List Value} (h : RowAt w B A n xs) (ho : w.ownsRow B' E z v n' xs') (hg : w.grownBy w' v.ownBlock) (hlt : ∀ b, A = some ⟨b, 0, none⟩ → b < B') : RowAt w' B A n xs := fun hn => by
  obtain ⟨b, hA, hB, hb, hc, hf⟩ := h hn
  have e := hg.block b hb (fun e => by have := own_ge ho e.symm; have := hlt b hA; omega)
  exact ⟨b, hA, hB, Nat.lt_of_lt_of_le hb hg.size, fun j u hu => (World.cell?_of_block (a := ⟨b, j, none⟩) e).trans (hc j u hu), fun j => (World.frozen?_of_block (a := ⟨b, j, none⟩) e).trans (hf j)⟩
theorem own_under {w : World} {A : Option Addr} {cap n z B : Nat} {E : TypeId} {xs : List Value} (h : w.ownsRow B E z (.slice A n cap) n xs) : ∀ b, A = some ⟨b, 0, none⟩ → b < w.heap.size := fun b hb => own_lt h (by rw [hb]; rfl)
theorem Lies.start (g0 cap n : Nat) (w0 : World) : Lies g0 w0 (.slice (some ⟨g0, 0, none⟩) n cap) w0 := ⟨grown_refl' _ _, fun _ hk => .inl (by simp [Value.ownBlock] at hk; omega)⟩
theorem Lies.below {g0 : Nat} {w0 w w' : World} {v : Value} (h : Lies g0 w0 v w) (hb : Below w.heap.size w w') : Lies g0 w0 v w' := ⟨grown_trans' h.grown (grown_of_below hb), h.sit⟩
theorem Lies.app {g0 : Nat} {w0 w w' : World} {v v' : Value} (h : Lies g0 w0 v w) (ha : App w w' v v') : Lies g0 w0 v' w' := by
  refine ⟨⟨ha.grown.os.trans h.grown.os, ha.grown.tape.trans h.grown.tape, ha.grown.output.trans h.grown.output, Nat.le_trans h.grown.size ha.grown.size, fun k hk hne => ?_⟩, fun k hk => ?_⟩
  · refine (ha.grown.block k (Nat.lt_of_lt_of_le hk h.grown.size) fun e => ?_).trans (h.grown.block k hk hne)
    rcases h.sit k e.symm with h1 | h1
    · exact hne (by rw [h1])
    · omega
  · rcases ha.sit k hk with h1 | h1
    · exact h.sit k h1
    · exact .inr (Nat.le_trans h.grown.size h1)
theorem Lies.size {g0 : Nat} {w0 w : World} {v : Value} (h : Lies g0 w0 v w) : w0.heap.size ≤ w.heap.size := h.grown.size
theorem RowAt.lies {g0 B n : Nat} {w0 w : World} {v : Value} {A : Option Addr} {xs : List Value} (h : RowAt w0 B A n xs) (hl : Lies g0 w0 v w) (hg : g0 < B) : RowAt w B A n xs := fun hn => by
  obtain ⟨b, hA, hB, hlt, hc, hf⟩ := h hn
  have e := hl.grown.block b hlt (fun e => by injection e with e; omega)
  exact ⟨b, hA, hB, Nat.lt_of_lt_of_le hlt hl.size, fun j u hu => (World.cell?_of_block (a := ⟨b, j, none⟩) e).trans (hc j u hu), fun j => (World.frozen?_of_block (a := ⟨b, j, none⟩) e).trans (hf j)⟩
/-- Another block, known whole, stays. -/
theorem Lies.heap {g0 b : Nat} {w0 w : World} {v : Value} {o : Obj} (hl : Lies g0 w0 v w) (h : w0.heap[b]? = some o) (hg : b ≠ g0) : w.heap[b]? = some o := by
  rw [← h]; exact hl.grown.block b (lt_of_blk h) (fun e => by injection e with e; omega)
/-- append of one element, that lies in a new block. -/
theorem app_one {P : Program} {ops : Array Oper} {rest : List Oper} {o : Oper} {a : Act} {Q : Exit → Act → World → Prop} {w0 wr : World} {B n size bytes : Nat} {t e : TypeId} {z v : Value} {xs : List Value} {news : Array Value}
    (hE : Elem P t e z size bytes) (hgd : o.guard = none) (s x : Operand) (ho : o.op = .call { callee := .builtin .append, args := #[s, x], argTypes := #[t, t] })
    {g : Nat} (hs : a.eval s = v) (hx : a.eval x = .slice (some ⟨g, 0, none⟩) 1 1) (hgE : g = wr.heap.size) (hown : wr.ownsRow B e size v n xs) (hb : Below B w0 wr) (hl : news.size = size) (h1 : ∀ u ∈ news.toList, u.oneCell' = true) (hB : B ≤ wr.heap.size) (hn : n ≤ 1000000000)
    (h : ∀ v' w', w'.ownsRow B e size v' (n + 1) (xs ++ news.toList) → Below B w0 w' → App wr w' v v' → wpList P ops Q rest (a.put o.dst v') w') : wpList P ops Q (o :: rest) a (wr.alloc (.cells news e)) := by
  subst hgE
  obtain ⟨hu, ⟨i, hi, hz, hsz, hby⟩, hzc, hpos, hsm⟩ := hE
  have hmul : (n + 1) * bytes ≤ (n + 1) * 100 := Nat.mul_le_mul_left _ hsm
  refine wpList_append_own_at (P := P) _ hgd s x t ho B e i z size bytes hu hi hz hsz hby hzc hpos v n xs hs (hown.alloc _) ⟨wr.heap.size, 0, none⟩ 1 1 news.toList hx (by simpa using hl) ?_ h1 (by unfold maxLen; omega) (by omega) (by simp; omega) ?_
  · intro j u hu
    have e : (⟨wr.heap.size, 0, none⟩ : Addr).add j = ⟨wr.heap.size, j, none⟩ := by unfold Addr.add; split <;> simp_all
    rw [e, cell_of_blk (heap_new (w := wr)) j]
    simpa using hu
  · intro v' w' h2 h3 _ h5
    have hg : wr.grownBy w' v.ownBlock := grown_trans' (World.grownBy_alloc wr _ _) h3
    refine h v' w' h2 (hb.grown hg hB (fun k hk => (hown.lt k hk).1)) ⟨hg, fun k hk => ?_⟩
    rcases h5 with h5 | h5
    · exact .inl (by rw [← h5]; exact hk)
    · rw [h5] at hk; injection hk with hk; subst hk; right; simp
theorem ints_at {l : List Int} {k : Nat} (h : k < l.length) : (ints l)[k]? = some (.int .i64 (l.getD k 0)) := by
  simp [ints, List.getElem?_eq_getElem h, List.getD]
theorem ints_len (l : List Int) : (ints l).length = l.length := by simp [ints]
theorem ints_one (l : List Int) : ∀ u ∈ ints l, u.oneCell' = true := by
  intro u hu; simp only [ints, List.mem_map] at hu; obtain ⟨x, _, rfl⟩ := hu; rfl
theorem ints_int {l : List Int} : ∀ u ∈ ints l, ∃ x : Int, u = .int .i64 x := by
  intro u hu; simp only [ints, List.mem_map] at hu; obtain ⟨x, _, rfl⟩ := hu; exact ⟨x, rfl⟩
end Go.Proofs.Ytencfmipplgnkaa
