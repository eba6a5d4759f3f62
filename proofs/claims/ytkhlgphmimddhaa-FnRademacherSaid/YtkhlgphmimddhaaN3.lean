/- Plain facts: rests, quotients rounded down, greatest common divisors. -/
import Derived.Test.YtkhlgphmimddhaaN2
namespace Go.Proofs.Ytkhlgphmimddhaa
theorem tmod_bd {a n : Int} (hn : 0 < n) : -n < a.tmod n ∧ a.tmod n < n := by
  have h1 := Int.natAbs_tmod a n
  have h2 : a.natAbs % n.natAbs < n.natAbs := Nat.mod_lt _ (by omega)
  omega
theorem rest_eq {a n : Int} (hn : 0 < n) : (a.tmod n + n).tmod n = a % n := by
  have h := @tmod_bd a n hn
  rw [Int.tmod_eq_emod_of_nonneg (by omega), Int.add_emod_right, Int.tmod_eq_emod]
  split
  · simp
  · rw [Int.sub_emod, Int.emod_emod_of_dvd _ (Int.dvd_refl n)]
    have : (n.natAbs : Int) = n := by omega
    rw [this, Int.emod_self]; simp
theorem rest_eq' {a n : Int} (hn : 0 < n) : (a.tmod n + n) % n = a % n := by
  have h := @tmod_bd a n hn
  have h2 := @rest_eq a n hn
  rw [Int.tmod_eq_emod_of_nonneg (by omega)] at h2
  exact h2
theorem ediv_bd {a b K : Int} (hb : 0 < b) (h1 : -K ≤ a) (h2 : a ≤ K) : -K ≤ a / b ∧ a / b ≤ K := by
  rcases Int.le_total 0 a with h | h
  · have := Int.ediv_nonneg h (Int.le_of_lt hb)
    have := Int.ediv_le_self b h
    omega
  · have h3 : a ≤ a / b := (Int.le_ediv_iff_mul_le hb).2 (by
      have := Int.mul_le_mul_of_nonpos_left h (show (1 : Int) ≤ b by omega)
      omega)
    have h4 : a / b ≤ 0 := Int.ediv_nonpos_of_nonpos_of_neg h (by omega)
    omega
theorem floor_t {a b : Int} (hb : 0 < b) (h : a.tmod b ≠ 0) (ha : a < 0) : a.tdiv b - 1 = a / b := by
  rw [Int.tdiv_eq_ediv]
  have : ¬ (0 ≤ a ∨ b ∣ a) := by
    rintro (h1 | h1)
    · omega
    · exact h (Int.tmod_eq_zero_of_dvd h1)
  rw [if_neg this, Int.sign_eq_one_of_pos hb]; omega
theorem floor_z {a b : Int} (h : a.tmod b = 0) : a.tdiv b = a / b := by
  rw [Int.tdiv_eq_ediv, if_pos (.inr (Int.dvd_of_tmod_eq_zero h))]; omega
theorem floor_p {a b : Int} (h : 0 ≤ a) : a.tdiv b = a / b := Int.tdiv_eq_ediv_of_nonneg h
theorem gcd_step {p q : Int} (_hq : q ≠ 0) : Int.gcd q (p.tmod q) = Int.gcd p q := by
  show Nat.gcd q.natAbs (p.tmod q).natAbs = Nat.gcd p.natAbs q.natAbs
  rw [Int.natAbs_tmod, Nat.gcd_comm p.natAbs, Nat.gcd_rec q.natAbs p.natAbs, Nat.gcd_comm]
theorem tmod_lt {p q : Int} (hq : q ≠ 0) : (p.tmod q).natAbs < q.natAbs := by
  rw [Int.natAbs_tmod]; exact Nat.mod_lt _ (by omega)
theorem gcd_zero' {p q : Int} (hq : q = 0) : (Int.gcd p q : Int) = p.natAbs := by subst hq; simp
theorem tmod_small {p q K : Int} (hq : q ≠ 0) (h1 : -K ≤ q) (h2 : q ≤ K) : -K ≤ p.tmod q ∧ p.tmod q ≤ K := by
  have := @tmod_lt p q hq
  omega
end Go.Proofs.Ytkhlgphmimddhaa
