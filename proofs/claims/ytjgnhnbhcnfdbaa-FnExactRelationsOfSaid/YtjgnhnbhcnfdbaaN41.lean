/- Plain: continued fractions and their convergents. -/
import Derived.Test.YtjgnhnbhcnfdbaaN31
namespace Go.Proofs.Ytjgnhnbhcnfdbaa
def cfL : Nat → Int → Int → List Int
  | 0, _, _ => []
  | k + 1, p, q => if q = 0 then [] else (p / q) :: cfL k q (p % q)
theorem cfL_zero (k : Nat) (p : Int) : cfL k p 0 = [] := by cases k <;> simp [cfL]
theorem cfL_step {k : Nat} {p q : Int} (hq : q ≠ 0) : cfL (k + 1) p q = (p / q) :: cfL k q (p % q) := by simp [cfL, hq]
theorem cfL_fuel : ∀ (k j : Nat) (p q : Int), 0 ≤ q → q < k → q < j → cfL k p q = cfL j p q
  | 0, _, _, _, _, h, _ => by omega
  | k + 1, 0, _, _, _, _, h => by omega
  | k + 1, j + 1, p, q, h0, h1, h2 => by
    by_cases hq : q = 0
    · subst hq; rw [cfL_zero, cfL_zero]
    · rw [cfL_step hq, cfL_step hq]
      have e1 := Int.emod_nonneg p hq
      have e2 := Int.emod_lt_of_pos p (show 0 < q by omega)
      rw [cfL_fuel k j q (p % q) e1 (by omega) (by omega)]
/-- The continued fraction of p/q. -/
def cfrac (p q : Int) : List Int := cfL (q.toNat + 1) p q
theorem cfrac_zero (p : Int) : cfrac p 0 = [] := cfL_zero _ _
theorem cfrac_step {p q : Int} (hq : 0 < q) : cfrac p q = (p / q) :: cfrac q (p % q) := by
  have e1 := Int.emod_nonneg p (show q ≠ 0 by omega)
  have e2 := Int.emod_lt_of_pos p hq
  unfold cfrac
  rw [cfL_step (by omega), cfL_fuel q.toNat ((p % q).toNat + 1) q (p % q) e1 (by omega) (by omega)]
/-- Convergents: last a/b, before it p/q. -/
def convL : List Int → Int → Int → Int → Int → List P2
  | [], _, _, _, _ => []
  | n :: l, a, b, p, q => ⟨n * a + p, n * b + q⟩ :: convL l (n * a + p) (n * b + q) a b
theorem convL_len : ∀ (l : List Int) (a b p q : Int), (convL l a b p q).length = l.length
  | [], _, _, _, _ => rfl
  | n :: l, a, b, p, q => by simp [convL, convL_len l]
structure E9 (x : Int) : Prop where
  lo : -1000000000 ≤ x
  hi : x ≤ 1000000000
/-- What holds from the first step on. -/
structure CfInv (P Q x y a b p q : Int) : Prop where
  l1 : a * x + p * y = P
  l2 : b * x + q * y = Q
  x1 : 1 ≤ x
  y0 : 0 ≤ y
  yx : y < x
  b1 : 1 ≤ b
  q0 : 0 ≤ q
  sg : (0 ≤ a ∧ 0 ≤ p) ∨ (a ≤ 0 ∧ p ≤ 0) ∨ (p = 1 ∧ a ≤ -1 ∧ P ≤ a)
  pe : E9 p
  qe : q ≤ 1000000000
theorem CfInv.bd {P Q x y a b p q : Int} (h : CfInv P Q x y a b p q) (hP : E9 P) (hQ : Q ≤ 1000000000) : E9 a ∧ b ≤ 1000000000 := by
  obtain ⟨l1, l2, x1, y0, yx, b1, q0, sg, _, _⟩ := h
  obtain ⟨P0, P1⟩ := hP
  have hqy : 0 ≤ q * y := Int.mul_nonneg q0 y0
  have hbx : b * 1 ≤ b * x := Int.mul_le_mul_of_nonneg_left x1 (by omega)
  refine ⟨?_, by omega⟩
  rcases sg with ⟨h1, h2⟩ | ⟨h1, h2⟩ | ⟨h1, h2, h3⟩
  · have e1 : 0 ≤ p * y := Int.mul_nonneg h2 y0
    have e2 : a * 1 ≤ a * x := Int.mul_le_mul_of_nonneg_left x1 h1
    exact ⟨by omega, by omega⟩
  · have e1 : 0 ≤ (-p) * y := Int.mul_nonneg (by omega) y0
    have e2 : (-a) * 1 ≤ (-a) * x := Int.mul_le_mul_of_nonneg_left x1 (by omega)
    rw [Int.neg_mul] at e1 e2
    rw [Int.neg_mul] at e2
    exact ⟨by omega, by omega⟩
  · exact ⟨by omega, by omega⟩
theorem CfInv.start {P Q : Int} (hQ : 0 < Q) : CfInv P Q Q (P % Q) (P / Q) 1 1 0 := by
  have e0 := Int.mul_ediv_add_emod P Q
  have e1 := Int.emod_nonneg P (show Q ≠ 0 by omega)
  have e2 := Int.emod_lt_of_pos P hQ
  refine ⟨by rw [Int.mul_comm (P / Q) Q]; omega, by omega, by omega, e1, e2, by omega, by omega, ?_, ⟨by omega, by omega⟩, by omega⟩
  by_cases h : 0 ≤ P / Q
  · exact .inl ⟨h, by omega⟩
  · refine .inr (.inr ⟨rfl, by omega, ?_⟩)
    have h2 : (-(P / Q + 1)) * 1 ≤ (-(P / Q + 1)) * Q := Int.mul_le_mul_of_nonneg_left (by omega) (by omega)
    rw [Int.neg_mul, Int.neg_mul, Int.add_mul, Int.add_mul, Int.mul_comm (P / Q) Q] at h2
    omega
theorem CfInv.step {P Q x y a b p q : Int} (h : CfInv P Q x y a b p q) (hP : E9 P) (hQ : Q ≤ 1000000000) (hy : 0 < y) : CfInv P Q y (x % y) (x / y * a + p) (x / y * b + q) a b := by
  obtain ⟨ae, be⟩ := h.bd hP hQ
  obtain ⟨l1, l2, x1, y0, yx, b1, q0, sg, _, _⟩ := h
  have e0 := Int.mul_ediv_add_emod x y
  have e1 := Int.emod_nonneg x (show y ≠ 0 by omega)
  have e2 := Int.emod_lt_of_pos x hy
  have hk : 1 ≤ x / y := (Int.le_ediv_iff_mul_le hy).2 (by omega)
  generalize hkd : x / y = k at *
  have em : x % y = x - y * k := by omega
  refine ⟨?_, ?_, by omega, e1, e2, ?_, by omega, ?_, ae, be⟩
  · rw [em]; grind
  · rw [em]; grind
  · have := Int.mul_le_mul hk b1 (by omega) (by omega)
    omega
  · rcases sg with ⟨h1, h2⟩ | ⟨h1, h2⟩ | ⟨h1, h2, h3⟩
    · exact .inl ⟨by have := Int.mul_nonneg (show 0 ≤ k by omega) h1; omega, h1⟩
    · refine .inr (.inl ⟨?_, h1⟩)
      have := Int.mul_nonneg (show 0 ≤ k by omega) (show 0 ≤ -a by omega)
      rw [Int.mul_neg] at this; omega
    · refine .inr (.inl ⟨?_, by omega⟩)
      have := Int.mul_le_mul hk (show 1 ≤ -a by omega) (by omega) (by omega)
      rw [Int.mul_neg] at this; omega
/-- All convergents that are still to come have small numbers. -/
def convOk : List Int → Int → Int → Int → Int → Prop
  | [], _, _, _, _ => True
  | n :: l, a, b, p, q => E9 (n * a + p) ∧ E9 (n * b + q) ∧ convOk l (n * a + p) (n * b + q) a b
theorem convOk_of {P Q : Int} (hP : E9 P) (hQ : Q ≤ 1000000000) : ∀ (n : Nat) (x y a b p q : Int), y < n → CfInv P Q x y a b p q → convOk (cfrac x y) a b p q
  | 0, x, y, a, b, p, q, hn, h => by have := h.y0; omega
  | n + 1, x, y, a, b, p, q, hn, h => by
    by_cases hy : y = 0
    · subst hy; rw [cfrac_zero]; trivial
    · have hy0 : 0 < y := by have := h.y0; omega
      rw [cfrac_step hy0]
      have h2 := h.step hP hQ hy0
      obtain ⟨e1, e2⟩ := h2.bd hP hQ
      have e3 := h2.b1
      refine ⟨e1, ⟨by omega, e2⟩, convOk_of hP hQ n _ _ _ _ _ _ (by have := Int.emod_lt_of_pos x hy0; omega) h2⟩
theorem convOk_all {P Q : Int} (hP : E9 P) (hQ0 : 0 < Q) (hQ : Q ≤ 1000000000) : convOk (cfrac P Q) 1 0 0 1 := by
  rw [cfrac_step hQ0]
  have h := CfInv.start (P := P) hQ0
  obtain ⟨e1, e2⟩ := h.bd hP hQ
  refine ⟨by rw [Int.mul_one, Int.add_zero]; exact e1, by rw [Int.mul_zero, Int.zero_add]; exact ⟨by omega, by omega⟩, ?_⟩
  rw [Int.mul_one, Int.add_zero, Int.mul_zero, Int.zero_add]
  exact convOk_of hP hQ ((P % Q).toNat + 1) _ _ _ _ _ _ (by have := Int.emod_nonneg P (show Q ≠ 0 by omega); omega) h
/-- The chain of a fraction. -/
def chainL (p q : Int) : List P2 := ⟨1, 0⟩ :: convL (cfrac p q) 1 0 0 1
theorem half_rest {q r : Int} (hr : 0 < r) (h : r < q) : 2 * (q % r) < q := by
  have e0 := Int.mul_ediv_add_emod q r
  have e1 := Int.emod_lt_of_pos q hr
  have hk : 1 ≤ q / r := (Int.le_ediv_iff_mul_le hr).2 (by omega)
  have h2 : r * 1 ≤ r * (q / r) := Int.mul_le_mul_of_nonneg_left hk (by omega)
  omega
theorem cfrac_log : ∀ (j : Nat) (p q : Int), 0 ≤ q → q < (2 ^ j : Nat) → (cfrac p q).length ≤ 2 * j
  | 0, p, q, h0, h1 => by
    obtain rfl : q = 0 := by simp at h1; omega
    rw [cfrac_zero]; simp
  | j + 1, p, q, h0, h1 => by
    by_cases hq : q = 0
    · subst hq; rw [cfrac_zero]; simp
    · have e1 := Int.emod_nonneg p hq
      have e2 := Int.emod_lt_of_pos p (show 0 < q by omega)
      rw [cfrac_step (by omega)]
      generalize p % q = r at *
      by_cases hr : r = 0
      · subst hr; rw [cfrac_zero]; simp; omega
      · rw [cfrac_step (show 0 < r by omega)]
        have e3 := half_rest (show 0 < r by omega) e2
        have e4 := Int.emod_nonneg q hr
        have := cfrac_log j r (q % r) e4 (by rw [Nat.pow_succ] at h1; push_cast at h1 ⊢; omega)
        simp only [List.length_cons]; omega
theorem cfrac_len {p q : Int} (h0 : 0 ≤ q) (h1 : q ≤ 1000000000) : (cfrac p q).length ≤ 60 := cfrac_log 30 p q h0 (by omega)
end Go.Proofs.Ytjgnhnbhcnfdbaa
