/- Plain: the different values in order: sorted and without doubles, or put in one by one. -/
import Derived.Test.YtjgnhnbhcnfdbaaNum
import Derived.Lib.SlicesCompact
namespace Go.Proofs.Ytjgnhnbhcnfdbaa
theorem sorted_uniq {S T : List Int} (hs : S.Pairwise (· < ·)) (ht : T.Pairwise (· < ·)) (hm : ∀ x, x ∈ S ↔ x ∈ T) : S = T := by
  have nd : ∀ {L : List Int}, L.Pairwise (· < ·) → L.Nodup := fun h => List.nodup_iff_pairwise_ne.2 (h.imp (fun h e => by omega))
  exact List.Perm.eq_of_pairwise (le := (· < ·)) (fun a b _ _ h1 h2 => by omega) hs ht ((List.perm_ext_iff_of_nodup (nd hs) (nd ht)).2 hm)
theorem getB_eq {zs : List Int} {j : Nat} (h : j < zs.length) : zs.toArray[j]! = zs[j] := by simp [h]
theorem sorted_get {zs : List Int} (hs : zs.Pairwise (· ≤ ·)) {i j : Nat} (hij : i ≤ j) (hj : j < zs.length) : zs[i] ≤ zs[j] := by
  by_cases e : i = j
  · subst e; exact Int.le_refl _
  · exact List.pairwise_iff_getElem.1 hs i j (by omega) hj (by omega)
/-- Of a sorted list each number once. -/
theorem compact_sorted {zs : List Int} (hs : zs.Pairwise (· ≤ ·)) : (Lib.compact zs).Pairwise (· < ·) ∧ ∀ x, x ∈ Lib.compact zs ↔ x ∈ zs := by
  unfold Lib.compact Lib.compactUpTo
  constructor
  · rw [List.pairwise_map]
    refine List.Pairwise.imp_of_mem (R := fun a b => a < b) ?_ (List.Pairwise.filter _ List.pairwise_lt_range)
    intro a b ha hb hab
    simp only [List.mem_filter, List.mem_range] at ha hb
    obtain ⟨ha1, ha2⟩ := ha
    obtain ⟨hb1, hb2⟩ := hb
    rw [getB_eq ha1, getB_eq hb1]
    have h1 := sorted_get hs (show a ≤ b - 1 by omega) (show b - 1 < zs.length by omega)
    have h2 := sorted_get hs (show b - 1 ≤ b by omega) hb1
    have h3 : zs[b - 1] ≠ zs[b] := by
      intro e
      unfold Lib.keeps at hb2
      rw [decide_eq_true_eq, getB_eq hb1, getB_eq (show b - 1 < zs.length by omega), e] at hb2
      rcases hb2 with h | h
      · omega
      · exact h rfl
    omega
  · intro x
    simp only [List.mem_map, List.mem_filter, List.mem_range]
    constructor
    · rintro ⟨j, ⟨h1, _⟩, rfl⟩
      rw [getB_eq h1]; exact List.getElem_mem h1
    · intro hx
      obtain ⟨j, hj, rfl⟩ := List.getElem_of_mem hx
      have key : ∀ j (hj : j < zs.length), ∃ i, (i < zs.length ∧ Lib.keeps zs.toArray i = true) ∧ zs.toArray[i]! = zs[j] := by
        intro j
        induction j with
        | zero => exact fun hj => ⟨0, ⟨hj, by unfold Lib.keeps; simp⟩, getB_eq hj⟩
        | succ j ih =>
          intro hj
          by_cases e : zs[j + 1] = zs[j]
          · obtain ⟨i, h1, h2⟩ := ih (by omega)
            exact ⟨i, h1, by rw [h2, e]⟩
          · refine ⟨j + 1, ⟨hj, ?_⟩, getB_eq hj⟩
            unfold Lib.keeps
            rw [decide_eq_true_eq, getB_eq hj, Nat.add_sub_cancel, getB_eq (show j < zs.length by omega)]
            exact .inr e
      exact key j hj
/-- How many are less. -/
def lessC (S : List Int) (x : Int) : Nat := S.countP fun y => decide (y < x)
theorem lessC_le (S : List Int) (x : Int) : lessC S x ≤ S.length := List.countP_le_length
theorem lessC_split {S : List Int} {x : Int} (hs : S.Pairwise (· < ·)) : (∀ i (hi : i < S.length), i < lessC S x → S[i] < x) ∧ (∀ i (hi : i < S.length), lessC S x ≤ i → x ≤ S[i]) := by
  unfold lessC
  induction S with
  | nil => simp
  | cons a S ih =>
    obtain ⟨h1, h2⟩ := List.pairwise_cons.1 hs
    obtain ⟨i1, i2⟩ := ih h2
    rw [List.countP_cons]
    by_cases hax : a < x
    · rw [if_pos (by simpa using hax)]
      constructor
      · intro i hi hlt
        cases i with
        | zero => exact hax
        | succ i => exact i1 i (by simpa using hi) (by omega)
      · intro i hi hle
        cases i with
        | zero => omega
        | succ i => exact i2 i (by simpa using hi) (by omega)
    · rw [if_neg (by simpa using hax)]
      have h0 : S.countP (fun y => decide (y < x)) = 0 := by
        rw [List.countP_eq_zero]
        intro y hy
        have := h1 y hy
        simp; omega
      rw [h0]
      constructor
      · intro i hi hlt; omega
      · intro i hi _
        cases i with
        | zero => exact Int.not_lt.1 hax
        | succ i =>
          have hi' : i < S.length := by simpa using hi
          have := h1 _ (List.getElem_mem hi')
          have e : (a :: S)[i + 1] = S[i] := rfl
          rw [e]; omega
/-- x put in at its place. -/
def insS (S : List Int) (x : Int) : List Int := if x ∈ S then S else S.take (lessC S x) ++ x :: S.drop (lessC S x)
theorem insS_ok {S : List Int} {x : Int} (hs : S.Pairwise (· < ·)) : (insS S x).Pairwise (· < ·) ∧ ∀ y, y ∈ insS S x ↔ y = x ∨ y ∈ S := by
  unfold insS
  split
  · rename_i h
    refine ⟨hs, fun y => ⟨fun hy => .inr hy, ?_⟩⟩
    rintro (rfl | hy)
    · exact h
    · exact hy
  · rename_i h
    obtain ⟨h1, h2⟩ := lessC_split (x := x) hs
    have hk := lessC_le S x
    generalize lessC S x = k at *
    have hT : ∀ a ∈ S.take k, a < x := fun a ha => by
      obtain ⟨i, hi, rfl⟩ := List.getElem_of_mem ha
      rw [List.length_take] at hi
      rw [List.getElem_take]
      exact h1 i (by omega) (by omega)
    have hD : ∀ a ∈ S.drop k, x < a := fun a ha => by
      have hm : a ∈ S := List.mem_of_mem_drop ha
      obtain ⟨i, hi, rfl⟩ := List.getElem_of_mem ha
      rw [List.length_drop] at hi
      have := h2 (k + i) (by omega) (by omega)
      rw [List.getElem_drop] at hm ⊢
      have hne : S[k + i] ≠ x := fun e => h (e ▸ hm)
      omega
    constructor
    · rw [List.pairwise_append]
      refine ⟨hs.sublist (List.take_sublist _ _), List.pairwise_cons.2 ⟨hD, hs.sublist (List.drop_sublist _ _)⟩, ?_⟩
      intro a ha b hb
      rcases List.mem_cons.1 hb with rfl | hb
      · exact hT a ha
      · have := hT a ha; have := hD b hb; omega
    · intro y
      rw [List.mem_append, List.mem_cons]
      have e : y ∈ S ↔ y ∈ S.take k ∨ y ∈ S.drop k := by rw [← List.mem_append, List.take_append_drop]
      rw [e]
      constructor
      · rintro (h3 | h3 | h3)
        · exact .inr (.inl h3)
        · exact .inl h3
        · exact .inr (.inr h3)
      · rintro (h3 | h3 | h3)
        · exact .inr (.inl h3)
        · exact .inl h3
        · exact .inr (.inr h3)
theorem insS_len (S : List Int) (x : Int) : (insS S x).length ≤ S.length + 1 := by
  unfold insS
  split
  · omega
  · simp only [List.length_append, List.length_cons, List.length_take, List.length_drop]
    omega
end Go.Proofs.Ytjgnhnbhcnfdbaa
