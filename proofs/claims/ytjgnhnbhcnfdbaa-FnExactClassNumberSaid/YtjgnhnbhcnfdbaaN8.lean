/- Plain facts: the next form of an indefinite form. -/
import Derived.Test.YtjgnhnbhcnfdbaaN7
namespace Go.Proofs.Ytjgnhnbhcnfdbaa
def nextB (a b c : Int) : Int := isqrt (disc a b c) - (isqrt (disc a b c) + b) % (2 * (c.natAbs : Int))
def nextK (a b c : Int) : Int := if c < 0 then -((isqrt (disc a b c) + b) / (2 * (c.natAbs : Int))) else (isqrt (disc a b c) + b) / (2 * (c.natAbs : Int))
def nextF (a b c : Int) : F3 := ⟨c, nextB a b c, formAt a b c (-1) (nextK a b c)⟩
theorem nextB_eq (a b c : Int) : nextB a b c + b = 2 * c * nextK a b c := by
  unfold nextB nextK
  generalize isqrt (disc a b c) = r
  have h := Int.mul_ediv_add_emod (r + b) (2 * (c.natAbs : Int))
  split
  · have e : 2 * (c.natAbs : Int) = -(2 * c) := by omega
    rw [e] at h ⊢
    have e2 : 2 * c * -((r + b) / -(2 * c)) = -(2 * c) * ((r + b) / -(2 * c)) := by rw [Int.mul_neg, Int.neg_mul]
    rw [e2]; omega
  · have e : 2 * (c.natAbs : Int) = 2 * c := by omega
    rw [e] at h ⊢
    omega
structure NextOk (a b c : Int) : Prop where
  c0 : c ≠ 0
  r0 : 0 ≤ isqrt (disc a b c)
  r1 : isqrt (disc a b c) ≤ 2236068
  d0 : 0 ≤ disc a b c
  d1 : disc a b c ≤ 5000000000000
  b0 : -2000000 ≤ nextB a b c
  b1 : nextB a b c ≤ 2236068
  k0 : -1700000 ≤ nextK a b c
  k1 : nextK a b c ≤ 1700000
  quo : (nextB a b c + b).tdiv (2 * c) = nextK a b c
  mid : formMid a b c 0 (-1) 1 (nextK a b c) = nextB a b c
  fst : formAt a b c 0 1 = c
  sq0 : 0 ≤ nextB a b c * nextB a b c
  sq1 : nextB a b c * nextB a b c ≤ 5000000200000
  l0 : -4000000000000000000 ≤ formAt a b c (-1) (nextK a b c)
  l1 : formAt a b c (-1) (nextK a b c) ≤ 4000000000000000000
  lst : (nextB a b c * nextB a b c - disc a b c).tdiv (4 * c) = formAt a b c (-1) (nextK a b c)
theorem next_ok {a b c : Int} (hs : Small a b c) (hd : 0 < disc a b c) (hc : c ≠ 0) : NextOk a b c := by
  have d1 := (disc_bd hs).2
  obtain ⟨r0, r1⟩ := isqrt_bd (Int.le_of_lt hd) d1
  have he := nextB_eq a b c
  have ⟨a0, a1, b0, b1, c0, c1⟩ := hs
  have hB : -2000000 ≤ nextB a b c ∧ nextB a b c ≤ 2236068 := by
    unfold nextB
    have h1 := Int.emod_nonneg (isqrt (disc a b c) + b) (show 2 * (c.natAbs : Int) ≠ 0 by omega)
    have h2 := Int.emod_lt_of_pos (isqrt (disc a b c) + b) (show 0 < 2 * (c.natAbs : Int) by omega)
    omega
  have hK : -1700000 ≤ nextK a b c ∧ nextK a b c ≤ 1700000 := by
    have h1 : -1700000 ≤ (isqrt (disc a b c) + b) / (2 * (c.natAbs : Int)) ∧ (isqrt (disc a b c) + b) / (2 * (c.natAbs : Int)) ≤ 1700000 := by
      have hp : 0 < 2 * (c.natAbs : Int) := by omega
      constructor
      · refine (Int.le_ediv_iff_mul_le hp).2 ?_; omega
      · refine Int.le_of_lt_add_one ((Int.ediv_lt_iff_lt_mul hp).2 ?_); omega
    unfold nextK; split <;> omega
  have hq := mul_bd (a := nextB a b c) (b := nextB a b c) (A := 2236068) (B := 2236068) (by omega) hB.2 (by omega) hB.2
  have hL : -4000000000000000000 ≤ formAt a b c (-1) (nextK a b c) ∧ formAt a b c (-1) (nextK a b c) ≤ 4000000000000000000 := by
    obtain ⟨k0, k1⟩ := hK
    have e1 := mul_bd (a := b) (b := nextK a b c) (A := 1000000) (B := 1700000) b0 b1 (by omega) (by omega)
    have e2 := mul_bd (a := c) (b := nextK a b c) (A := 1000000) (B := 1700000) c0 c1 (by omega) (by omega)
    have e3 := mul_bd (a := c * nextK a b c) (b := nextK a b c) (A := 1700000000000) (B := 1700000) (by omega) (by omega) (by omega) (by omega)
    have e : formAt a b c (-1) (nextK a b c) = a - b * nextK a b c + c * nextK a b c * nextK a b c := by unfold formAt; grind
    omega
  refine ⟨hc, r0, r1, Int.le_of_lt hd, d1, hB.1, hB.2, hK.1, hK.2, ?_, ?_, ?_, sq_nn _, by omega, hL.1, hL.2, ?_⟩
  · rw [he]; exact Int.mul_tdiv_cancel_left _ (by omega)
  · unfold formMid; simp only [Int.mul_zero, Int.zero_mul, Int.zero_add, Int.mul_one]; rw [show 2 * c * nextK a b c = nextB a b c + b from he.symm]; grind
  · unfold formAt; grind
  · have e : nextB a b c * nextB a b c - disc a b c = 4 * c * formAt a b c (-1) (nextK a b c) := by
      have : nextB a b c = 2 * c * nextK a b c - b := by omega
      rw [this]; unfold disc formAt; grind
    rw [e]; exact Int.mul_tdiv_cancel_left _ (by omega)
end Go.Proofs.Ytjgnhnbhcnfdbaa
