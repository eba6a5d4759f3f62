/- Plain: insertion into a sorted list, step by step. -/
import Derived.Test.YtjgnhnbhcnfdbaaN57
namespace Go.Proofs.Ytjgnhnbhcnfdbaa
/-- The numbers from place k on shifted by one place, behind one more number. -/
def shT (S : List Int) (v : Int) (k : Nat) : List Int := (S ++ [v]).take (k + 1) ++ S.drop k
theorem shT_len {S : List Int} {v : Int} {k : Nat} (h : k ≤ S.length) : (shT S v k).length = S.length + 1 := by
  unfold shT; simp; omega
theorem shT_top (S : List Int) (v : Int) : shT S v S.length = S ++ [v] := by
  unfold shT; rw [List.take_of_length_le (by simp), List.drop_length, List.append_nil]
theorem shT_at {S : List Int} {v : Int} {k i : Nat} (hk : k ≤ S.length) : (shT S v k)[i]? = if i ≤ k then (S ++ [v])[i]? else S[i - 1]? := by
  unfold shT
  have hl : ((S ++ [v]).take (k + 1)).length = k + 1 := by simp; omega
  by_cases h : i ≤ k
  · rw [if_pos h, List.getElem?_append_left (by omega), List.getElem?_take_of_lt (by omega)]
  · rw [if_neg h, List.getElem?_append_right (by omega), hl, List.getElem?_drop]
    congr 1; omega
theorem shT_get {S : List Int} {v : Int} {k i : Nat} (hk : k ≤ S.length) (hi : i ≤ k) (h2 : i < S.length) : (shT S v k).getD i 0 = S.getD i 0 := by
  rw [List.getD_eq_getElem?_getD, shT_at hk, if_pos hi, List.getElem?_append_left h2, List.getD_eq_getElem?_getD]
theorem shT_step {S : List Int} {v : Int} {k : Nat} (h : k + 1 ≤ S.length) : (shT S v (k + 1)).set (k + 1) (S.getD k 0) = shT S v k := by
  apply List.ext_getElem?
  intro i
  rw [List.getElem?_set, shT_at h, shT_at (by omega), shT_len h]
  by_cases h1 : k + 1 = i
  · subst h1
    rw [if_pos rfl, if_pos (by omega), if_neg (by omega), Nat.add_sub_cancel]
    rw [List.getD_eq_getElem?_getD, List.getElem?_eq_getElem (show k < S.length by omega)]; rfl
  · rw [if_neg h1]
    by_cases h2 : i ≤ k
    · rw [if_pos (by omega), if_pos h2]
    · rw [if_neg (by omega), if_neg h2]
theorem shT_done {S : List Int} {v : Int} {k : Nat} (h : k ≤ S.length) : (shT S v k).set k v = S.take k ++ v :: S.drop k := by
  apply List.ext_getElem?
  intro i
  rw [List.getElem?_set, shT_at h, shT_len h]
  have hl : (S.take k).length = k := by simp; omega
  rcases Nat.lt_trichotomy i k with h1 | h1 | h1
  · rw [if_neg (by omega), if_pos (by omega), List.getElem?_append_left (by omega), List.getElem?_append_left (by omega), List.getElem?_take_of_lt h1]
  · subst h1
    rw [if_pos rfl, if_pos (by omega), List.getElem?_append_right (by omega), hl]
    simp
  · rw [if_neg (by omega), if_neg (by omega), List.getElem?_append_right (by omega), hl]
    rw [show i - k = (i - 1 - k) + 1 by omega, List.getElem?_cons_succ, List.getElem?_drop]
    congr 1; omega
/-- Where a number belongs. -/
theorem ins_in {S : List Int} {v : Int} (h : v ∈ S) : insS S v = S := by unfold insS; rw [if_pos h]
theorem ins_at {S : List Int} {v : Int} {p : Nat} (hs : S.Pairwise (· < ·)) (hp : p ≤ S.length) (h1 : ∀ i, p ≤ i → i < S.length → v < S.getD i 0) (h2 : ∀ q, p = q + 1 → S.getD q 0 < v) : insS S v = (shT S v p).set p v := by
  have key : ∀ i (hi : i < S.length), S.getD i 0 = S[i] := fun i hi => by rw [List.getD_eq_getElem?_getD, List.getElem?_eq_getElem hi]; rfl
  obtain ⟨k1, k2⟩ := lessC_split (x := v) hs
  have hl := lessC_le S v
  have e : lessC S v = p := by
    rcases Nat.lt_trichotomy (lessC S v) p with h | h | h
    · exfalso
      obtain ⟨q, rfl⟩ : ∃ q, p = q + 1 := ⟨p - 1, by omega⟩
      have a := h2 q rfl
      have b := k2 q (by omega) (by omega)
      rw [key q (by omega)] at a; omega
    · exact h
    · exfalso
      have a := h1 p (Nat.le_refl _) (by omega)
      have b := k1 p (by omega) h
      rw [key p (by omega)] at a; omega
  have hn : v ∉ S := fun hm => by
    obtain ⟨i, hi, ei⟩ := List.getElem_of_mem hm
    rcases (show i < p ∨ p ≤ i by omega) with h | h
    · have := k1 i hi (by omega); omega
    · have := h1 i h hi
      rw [key i hi] at this; omega
  unfold insS
  rw [if_neg hn, e, shT_done hp]
end Go.Proofs.Ytjgnhnbhcnfdbaa
