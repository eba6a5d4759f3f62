/- Plain facts: fractions. -/
import Derived.Test.YtkhlgphmimddhaaN4
namespace Go.Proofs.Ytkhlgphmimddhaa
def isFrac (p q : Int) : Bool := entB p && (inB q 0 1000000000 && ((Int.gcd p q : Int) == 1 && (decide (0 < q) || p == 1)))
def fx (p q : Int) : Int := p.tdiv (Int.gcd p q : Int)
def fy (p q : Int) : Int := q.tdiv (Int.gcd p q : Int)
theorem gcd_pos_right {p q : Int} (h : 0 < q) : 0 < (Int.gcd p q : Int) := by
  have := Int.gcd_pos_of_ne_zero_right p (show q ≠ 0 by omega)
  omega
structure FracBd (p q K : Int) : Prop where
  g : 0 < (Int.gcd p q : Int)
  x0 : -K ≤ fx p q
  x1 : fx p q ≤ K
  y0 : -K ≤ fy p q
  y1 : fy p q ≤ K
theorem fracBd {p q K : Int} (h : 0 < q) (p0 : -K ≤ p) (p1 : p ≤ K) (q1 : q ≤ K) : FracBd p q K :=
  ⟨gcd_pos_right h, (tdiv_bd p0 p1).1, (tdiv_bd p0 p1).2, (tdiv_bd (a := q) (K := K) (by omega) q1).1, (tdiv_bd (a := q) (K := K) (by omega) q1).2⟩
theorem isFrac_iff {p q : Int} : isFrac p q = true ↔ (-1000000000 ≤ p ∧ p ≤ 1000000000) ∧ (0 ≤ q ∧ q ≤ 1000000000) ∧ (Int.gcd p q : Int) = 1 ∧ (0 < q ∨ p = 1) := by
  simp [isFrac, entB, inB]
end Go.Proofs.Ytkhlgphmimddhaa
