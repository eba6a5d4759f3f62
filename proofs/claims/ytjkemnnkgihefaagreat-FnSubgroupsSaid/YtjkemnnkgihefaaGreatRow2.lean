/- Rows of rows: general words, no program in sight. -/
import Derived.Test.YtjkemnnkgihefaaGreatRow
namespace Go.Proofs.YtjkemnnkgihefaaGreat
open Go.RowKit
/-- A row of slices, each of them a row of its own, all in different blocks. -/
structure OwnsSS (w : World) (B : Nat) (ES EI : TypeId) (v : Value) (n : Nat) (inn : List Value) (len : Nat → Nat) (f : Nat → List Value) : Prop where
  out : w.ownsRow B ES 1 v n inn
  row : ∀ (i : Nat) (u : Value), inn[i]? = some u → w.ownsRow B EI 1 u (len i) (f i)
  apart : ∀ (i j : Nat) (u u' : Value) (b : Nat), inn[i]? = some u → inn[j]? = some u' → u.ownBlock = some b → u'.ownBlock = some b → i = j
section
variable {w w' : World} {B B' n : Nat} {ES EI : TypeId} {v : Value} {inn : List Value} {len len' : Nat → Nat} {f f' : Nat → List Value}
theorem own_block_form {z n : Nat} {e : TypeId} {xs : List Value} {b : Nat} (h : w.ownsRow B e z v n xs) (hb : v.ownBlock = some b) : ∃ cur, w.heap[b]? = some (.cells cur e (0, 0)) := by
  rcases h.2 with ⟨rfl, _⟩ | ⟨g, cap, cur, rfl, _, hh, _⟩
  · simp [Value.ownBlock] at hb
  · simp [Value.ownBlock] at hb; subst hb; exact ⟨cur, hh⟩
theorem own_types {z z' n n' : Nat} {e e' : TypeId} {v' : Value} {xs xs' : List Value} (h : w.ownsRow B e z v n xs) (h' : w.ownsRow B' e' z' v' n' xs') (hne : e ≠ e') : ∀ b, v.ownBlock = some b → v'.ownBlock ≠ some b := fun b hb hb' => by
  obtain ⟨c, hc⟩ := own_block_form h hb
  obtain ⟨c', hc'⟩ := own_block_form h' hb'
  rw [hc] at hc'
  injection hc' with e1
  injection e1 with _ e2
  exact hne e2
theorem OwnsSS.lenE (h : OwnsSS w B ES EI v n inn len f) : inn.length = n := by have := h.out.1; omega
theorem OwnsSS.at_ (h : OwnsSS w B ES EI v n inn len f) {k : Nat} (hk : k < n) : ∃ u, inn[k]? = some u ∧ w.ownsRow B EI 1 u (len k) (f k) := by
  have hl : k < inn.length := by rw [h.lenE]; exact hk
  exact ⟨inn[k], List.getElem?_eq_getElem hl, h.row k _ (List.getElem?_eq_getElem hl)⟩
theorem OwnsSS.congr (h : OwnsSS w B ES EI v n inn len f) (hl : ∀ i, i < n → len i = len' i) (hf : ∀ i, i < n → f i = f' i) : OwnsSS w B ES EI v n inn len' f' := by
  refine ⟨h.out, fun i u hu => ?_, h.apart⟩
  have hi : i < n := by rw [← h.lenE]; exact (List.getElem?_eq_some_iff.1 hu).1
  rw [← hl i hi, ← hf i hi]; exact h.row i u hu
theorem OwnsSS.below (h : OwnsSS w B ES EI v n inn len f) (hb : Below w.heap.size w w') : OwnsSS w' B ES EI v n inn len f :=
  ⟨own_below h.out hb, fun i u hu => own_below (h.row i u hu) hb, h.apart⟩
theorem OwnsSS.nil (w : World) (B : Nat) (ES EI : TypeId) (len : Nat → Nat) (f : Nat → List Value) : OwnsSS w B ES EI (.slice none 0 0) 0 [] len f :=
  ⟨World.ownsRow_nil _ _ _ _, fun i u hu => by simp at hu, fun i j u u' b hu => by simp at hu⟩
theorem OwnsSS.lit0 (w : World) (B : Nat) (ES EI : TypeId) (len : Nat → Nat) (f : Nat → List Value) (hB : B ≤ w.heap.size) : OwnsSS (w.alloc (.cells #[] ES)) B ES EI (.slice (some ⟨w.heap.size, 0, none⟩) 0 0) 0 [] len f :=
  ⟨World.ownsRow_lit w #[] 0 hB (by simp [maxLen]) rfl, fun i u hu => by simp at hu, fun i j u u' b hu => by simp at hu⟩
/-- One more row is put behind. -/
theorem OwnsSS.push {wr : World} {v' : Value} {m : Nat} {vs : Array Value} (hne : ES ≠ EI) (h : OwnsSS wr B ES EI v n inn len f) (hB : B ≤ wr.heap.size) (hm : vs.size = m) (hm2 : m ≤ maxLen)
    (ho : w'.ownsRow B ES 1 v' (n + 1) (inn ++ [.slice (some ⟨wr.heap.size, 0, none⟩) m m])) (ha : App (wr.alloc (.cells vs EI)) w' v v') :
    OwnsSS w' B ES EI v' (n + 1) (inn ++ [.slice (some ⟨wr.heap.size, 0, none⟩) m m]) (fun i => if i = n then m else len i) (fun i => if i = n then vs.toList else f i) := by
  have hl := h.lenE
  have hv : ∀ b, v.ownBlock = some b → b < wr.heap.size := fun b hb => own_lt h.out hb
  have hnew : (wr.alloc (.cells vs EI)).ownsRow B EI 1 (.slice (some ⟨wr.heap.size, 0, none⟩) m m) m vs.toList := World.ownsRow_lit wr vs m hB hm2 (by omega)
  refine ⟨ho, fun i u hu => ?_, fun i j u u' b hu hu' hb hb' => ?_⟩
  · by_cases hi : i = n
    · subst hi
      rw [← hl, List.getElem?_append_right (Nat.le_refl _)] at hu
      simp at hu; subst hu
      rw [if_pos rfl, if_pos rfl]
      refine hnew.kept ha.grown (.inr ?_)
      intro e
      have := hv wr.heap.size (by rw [← e]; rfl)
      omega
    · have hlt : i < n := by
        have := (List.getElem?_eq_some_iff.1 hu).1
        simp at this; omega
      rw [List.getElem?_append_left (by omega)] at hu
      rw [if_neg hi, if_neg hi]
      have hr := h.row i u hu
      refine (hr.alloc _).kept ha.grown ?_
      cases hub : u.ownBlock with
      | none => exact .inl rfl
      | some b => exact .inr fun e => own_types h.out hr hne b e.symm hub
  · have key : ∀ i u, (inn ++ [.slice (some ⟨wr.heap.size, 0, none⟩) m m])[i]? = some u → (i < n ∧ inn[i]? = some u) ∨ (i = n ∧ u = .slice (some ⟨wr.heap.size, 0, none⟩) m m) := fun i u hu => by
      have hlt := (List.getElem?_eq_some_iff.1 hu).1
      simp at hlt
      by_cases hi : i < n
      · rw [List.getElem?_append_left (by omega)] at hu; exact .inl ⟨hi, hu⟩
      · have : i = n := by omega
        subst this
        rw [← hl, List.getElem?_append_right (Nat.le_refl _)] at hu
        simp at hu
        exact .inr ⟨by omega, hu.symm⟩
    rcases key i u hu with ⟨h1, h2⟩ | ⟨h1, h2⟩ <;> rcases key j u' hu' with ⟨h3, h4⟩ | ⟨h3, h4⟩
    · exact h.apart i j u u' b h2 h4 hb hb'
    · subst h4
      have e : b = wr.heap.size := by simpa [Value.ownBlock, eq_comm] using hb'
      have := own_lt (h.row i u h2) hb
      omega
    · subst h2
      have e : b = wr.heap.size := by simpa [Value.ownBlock, eq_comm] using hb
      have := own_lt (h.row j u' h4) hb'
      omega
    · omega
/-- One row is written anew. -/
theorem OwnsSS.put (hne : ES ≠ EI) (h : OwnsSS w B ES EI v n inn len f) {k : Nat} {u : Value} {vs : List Value} (hk : inn[k]? = some u) (hg : w.grownBy w' u.ownBlock) (ho : w'.ownsRow B EI 1 u (len k) vs) :
    OwnsSS w' B ES EI v n inn len (fun i => if i = k then vs else f i) := by
  have hu := h.row k u hk
  refine ⟨?_, fun i u' hu' => ?_, h.apart⟩
  · refine h.out.kept hg ?_
    cases hv : v.ownBlock with
    | none => exact .inl rfl
    | some b => exact .inr fun e => own_types h.out hu hne b hv e.symm
  · by_cases hi : i = k
    · subst hi
      rw [hk] at hu'; injection hu' with e; subst e
      rw [if_pos rfl]; exact ho
    · rw [if_neg hi]
      refine (h.row i u' hu').kept hg ?_
      cases hv : u'.ownBlock with
      | none => exact .inl rfl
      | some b => exact .inr fun e => hi (h.apart i k u' u b hu' hk hv e.symm)
theorem below_of_grown {row : Option Nat} (hg : w.grownBy w' row) (hr : ∀ b, row = some b → B ≤ b) : ∀ k, k < B → k < w.heap.size → w'.heap[k]? = w.heap[k]? := fun k hk hs => hg.block k hs (fun e => by have := hr k e.symm; omega)
end
def offs (xss : List (List Int)) : Nat → Nat
  | 0 => 0
  | k + 1 => offs xss k + (xss.getD k []).length
def mrow (m : Int) (xss : List (List Int)) (k i : Nat) : List Value := if i < k then allMarks (m + offs xss i) (xss.getD i []).length else ints (xss.getD i [])
theorem mrow_zero (m : Int) (xss : List (List Int)) (i : Nat) : mrow m xss 0 i = ints (xss.getD i []) := by simp [mrow]
theorem mrow_succ (m : Int) (xss : List (List Int)) (k i : Nat) : (if i = k then allMarks (m + offs xss k) (xss.getD k []).length else mrow m xss k i) = mrow m xss (k + 1) i := by
  unfold mrow
  by_cases h : i = k
  · subst h; rw [if_pos rfl, if_pos (by omega)]
  · rw [if_neg h]
    by_cases h2 : i < k
    · rw [if_pos h2, if_pos (by omega)]
    · rw [if_neg h2, if_neg (by omega)]
theorem offs_mono (xss : List (List Int)) {i k : Nat} (h : i ≤ k) : offs xss i ≤ offs xss k := by
  induction h with
  | refl => exact Nat.le_refl _
  | step _ ih => exact Nat.le_trans ih (Nat.le_add_right _ _)
end Go.Proofs.YtjkemnnkgihefaaGreat
