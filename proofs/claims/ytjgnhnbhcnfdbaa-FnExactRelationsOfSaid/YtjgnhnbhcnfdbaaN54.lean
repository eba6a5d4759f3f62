/- Plain: mixes of fractions. -/
import Derived.Test.YtjgnhnbhcnfdbaaN41
import Derived.Test.YtjgnhnbhcnfdbaaN52
import Derived.Test.YtjgnhnbhcnfdbaaN51
import Derived.Test.YtjgnhnbhcnfdbaaN10
namespace Go.Proofs.Ytjgnhnbhcnfdbaa
/-- Two rows of numbers have the determinant 1 or -1. -/
def Nb (a b p q : Int) : Prop := a * q - b * p = 1 ∨ a * q - b * p = -1
theorem convL_nb : ∀ (l : List Int) (a b p q : Int), Nb a b p q → ∀ k (hk : k < (convL l a b p q).length), Nb (convL l a b p q)[k].x (convL l a b p q)[k].y (if k = 0 then a else ((convL l a b p q).getD (k - 1) ⟨0, 0⟩).x) (if k = 0 then b else ((convL l a b p q).getD (k - 1) ⟨0, 0⟩).y)
  | [], _, _, _, _, _, k, hk => by simp [convL] at hk
  | n :: l, a, b, p, q, h, k, hk => by
    have h1 : Nb (n * a + p) (n * b + q) a b := by
      unfold Nb at *
      have e : (n * a + p) * b - (n * b + q) * a = -(a * q - b * p) := by grind
      omega
    cases k with
    | zero => exact h1
    | succ k =>
      have hk' : k < (convL l (n * a + p) (n * b + q) a b).length := by simpa [convL] using hk
      have ih := convL_nb l (n * a + p) (n * b + q) a b h1 k hk'
      have e1 : (convL (n :: l) a b p q)[k + 1] = (convL l (n * a + p) (n * b + q) a b)[k] := rfl
      rw [e1, if_neg (by omega), if_neg (by omega), Nat.add_sub_cancel]
      by_cases k0 : k = 0
      · subst k0
        rw [if_pos rfl, if_pos rfl] at ih
        exact ih
      · rw [if_neg k0, if_neg k0] at ih
        have e2 : (convL (n :: l) a b p q).getD k ⟨0, 0⟩ = (convL l (n * a + p) (n * b + q) a b).getD (k - 1) ⟨0, 0⟩ := by
          obtain ⟨j, rfl⟩ : ∃ j, k = j + 1 := ⟨k - 1, by omega⟩
          rfl
        rw [e2]; exact ih
/-- What two fractions of a chain, one behind the other, are. -/
theorem chain_nb {P Q : Int} {k : Nat} (hk : k + 1 < (chainL P Q).length) : Nb (chainL P Q)[k + 1].x (chainL P Q)[k + 1].y (chainL P Q)[k].x (chainL P Q)[k].y := by
  have hl : k < (convL (cfrac P Q) 1 0 0 1).length := by simpa [chainL] using hk
  have h := convL_nb (cfrac P Q) 1 0 0 1 (.inl (by omega)) k hl
  have e1 : (chainL P Q)[k + 1] = (convL (cfrac P Q) 1 0 0 1)[k] := by simp [chainL]
  rw [e1]
  by_cases k0 : k = 0
  · subst k0
    rw [if_pos rfl, if_pos rfl] at h
    have e2 : (chainL P Q)[0] = ⟨1, 0⟩ := by simp [chainL]
    rw [e2]; exact h
  · rw [if_neg k0, if_neg k0] at h
    obtain ⟨j, rfl⟩ : ∃ j, k = j + 1 := ⟨k - 1, by omega⟩
    have e2 : (chainL P Q)[j + 1] = (convL (cfrac P Q) 1 0 0 1).getD j ⟨0, 0⟩ := by
      have : j < (convL (cfrac P Q) 1 0 0 1).length := by omega
      simp [chainL, List.getD, List.getElem?_eq_getElem this]
    rw [e2]; exact h
theorem nb_pair {n a b p q t : Int} (h : Nb a b p q) (ht : t = 1 ∨ t = -1) : isPairB n (t * b % n) (q % n) = true := by
  rw [pairB_iff]
  intro g h1 h2 h3
  have h4 := dvd_mod h3 h1
  have h5 := dvd_mod h3 h2
  have h6 : (g : Int) ∣ b := by
    rcases ht with rfl | rfl
    · simpa using h4
    · have := (Int.dvd_neg).2 h4
      simpa using this
  have h7 : (g : Int) ∣ a * q - b * p := Int.dvd_sub (Int.dvd_trans h5 (Int.dvd_mul_left _ _)) (Int.dvd_trans h6 (Int.dvd_mul_right _ _))
  have h8 : (g : Int) ∣ 1 := by
    rcases h with e | e <;> rw [e] at h7
    · exact h7
    · exact (Int.dvd_neg).1 h7
  exact Nat.dvd_one.1 (by exact_mod_cast h8)
theorem convL_bd : ∀ (l : List Int) (a b p q : Int), convOk l a b p q → ∀ x ∈ convL l a b p q, E9 x.x ∧ E9 x.y
  | [], _, _, _, _, _, x, hx => by simp [convL] at hx
  | n :: l, a, b, p, q, h, x, hx => by
    obtain ⟨h1, h2, h3⟩ := h
    rw [convL, List.mem_cons] at hx
    rcases hx with rfl | hx
    · exact ⟨h1, h2⟩
    · exact convL_bd l _ _ _ _ h3 x hx
theorem chain_bd {P Q : Int} (hf : isFrac P Q = true) (k : Nat) : E9 ((chainL P Q).getD k ⟨0, 0⟩).y := by
  obtain ⟨hP, hQ, -, -⟩ := isFrac_iff.1 hf
  by_cases hk : k < (chainL P Q).length
  · have e : (chainL P Q).getD k ⟨0, 0⟩ = (chainL P Q)[k] := by simp [List.getD, List.getElem?_eq_getElem hk]
    rw [e]
    have hm : (chainL P Q)[k] ∈ chainL P Q := List.getElem_mem hk
    generalize (chainL P Q)[k] = x at hm
    rw [chainL, List.mem_cons] at hm
    rcases hm with rfl | hm
    · exact ⟨by simp only; omega, by simp only; omega⟩
    · by_cases h0 : 0 < Q
      · exact (convL_bd _ _ _ _ _ (convOk_all ⟨hP.1, hP.2⟩ h0 hQ.2) x hm).2
      · obtain rfl : Q = 0 := by omega
        rw [cfrac_zero] at hm
        simp [convL] at hm
  · have e : (chainL P Q).getD k ⟨0, 0⟩ = ⟨0, 0⟩ := by simp [List.getD, List.getElem?_eq_none (show (chainL P Q).length ≤ k by omega)]
    rw [e]; exact ⟨by simp only; omega, by simp only; omega⟩
def turnK (k : Nat) : Int := if k % 2 = 0 then -1 else 1
theorem turnK_or (k : Nat) : turnK k = 1 ∨ turnK k = -1 := by unfold turnK; split <;> simp
theorem turnK_next (k : Nat) : turnK (k + 1) = -turnK k := by
  unfold turnK
  rcases Nat.mod_two_eq_zero_or_one k with h | h
  · rw [if_neg (by omega), if_pos h]; rfl
  · rw [if_pos (by omega), if_neg (by omega)]
/-- The place that round k + 1 counts. -/
def mixI (n : Int) (L C : List P2) (k : Nat) : Int := cosetI n L (turnK k * (C.getD (k + 1) ⟨0, 0⟩).y) (C.getD k ⟨0, 0⟩).y
def mixL (n : Int) (L C : List P2) : Nat → List Int
  | 0 => List.replicate L.length 0
  | k + 1 => (mixL n L C k).set (mixI n L C k).toNat ((mixL n L C k).getD (mixI n L C k).toNat 0 + 1)
theorem mixL_len (n : Int) (L C : List P2) (k : Nat) : (mixL n L C k).length = L.length := by
  induction k with
  | zero => simp [mixL]
  | succ k ih => simp [mixL, ih]
theorem mixL_bd (n : Int) (L C : List P2) (k i : Nat) : 0 ≤ (mixL n L C k).getD i 0 ∧ (mixL n L C k).getD i 0 ≤ k := by
  induction k with
  | zero =>
    have : (mixL n L C 0).getD i 0 = 0 := by
      simp only [mixL, List.getD_eq_getElem?_getD, List.getElem?_replicate]
      split <;> rfl
    omega
  | succ k ih =>
    show 0 ≤ ((mixL n L C k).set _ _).getD i 0 ∧ ((mixL n L C k).set _ _).getD i 0 ≤ _
    by_cases h : (mixI n L C k).toNat < (mixL n L C k).length
    · rw [getD_set_eq h]
      split
      · rename_i e; rw [e] at ih; omega
      · omega
    · rw [List.set_eq_of_length_le (by omega)]; omega
theorem mixI_in {N : Nat} {P Q : Int} {k : Nat} (n0 : 0 < N) (hk : k + 1 < (chainL P Q).length) : (0 ≤ mixI N (lineL N) (chainL P Q) k ∧ mixI N (lineL N) (chainL P Q) k < (lineL N).length) ∧ isPairB N (turnK k * ((chainL P Q).getD (k + 1) ⟨0, 0⟩).y % N) (((chainL P Q).getD k ⟨0, 0⟩).y % N) = true := by
  have e1 : (chainL P Q).getD (k + 1) ⟨0, 0⟩ = (chainL P Q)[k + 1] := by simp [List.getD, List.getElem?_eq_getElem hk]
  have e2 : (chainL P Q).getD k ⟨0, 0⟩ = (chainL P Q)[k] := by simp [List.getD, List.getElem?_eq_getElem (show k < (chainL P Q).length by omega)]
  have hp : isPairB N (turnK k * ((chainL P Q).getD (k + 1) ⟨0, 0⟩).y % N) (((chainL P Q).getD k ⟨0, 0⟩).y % N) = true := by
    rw [e1, e2]
    exact nb_pair (chain_nb hk) (turnK_or k)
  exact ⟨coset_in (by omega) hp, hp⟩
def lcode (n : Int) : Int := if inB n 1 60 = true then (if 72 < ((lineL n).length : Int) then 3 else 0) else 2
structure MixRes where
  xs : List Int
  c : Int
def mixRes (n P Q : Int) : MixRes := if isFrac P Q = true then (if lcode n = 0 then ⟨mixL n (lineL n) (chainL P Q) ((chainL P Q).length - 1), 0⟩ else ⟨[], lcode n⟩) else ⟨[], 1⟩
theorem lcode_zero {n : Int} (h : lcode n = 0) : 1 ≤ n ∧ n ≤ 60 ∧ (lineL n).length ≤ 72 := by
  unfold lcode at h
  split at h
  · rename_i hn
    rw [inB_iff] at hn
    split at h
    · omega
    · exact ⟨hn.1, hn.2, by omega⟩
  · omega
theorem mixRes_len (n P Q : Int) : (mixRes n P Q).xs.length ≤ 72 := by
  unfold mixRes
  split
  · split
    · rename_i h
      rw [mixL_len]; exact (lcode_zero h).2.2
    · simp
  · simp
end Go.Proofs.Ytjgnhnbhcnfdbaa
