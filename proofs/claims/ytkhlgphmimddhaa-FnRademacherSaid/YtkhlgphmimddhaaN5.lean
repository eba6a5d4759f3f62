/- Plain facts: whole square roots; reduced forms. -/
import Derived.Test.YtkhlgphmimddhaaN4
namespace Go.Proofs.Ytkhlgphmimddhaa
theorem mul_le_self {x y : Int} (h0 : 0 ≤ x) (h : x ≤ y) : x * x ≤ y * y := Int.le_trans (Int.mul_le_mul_of_nonneg_left h h0) (Int.mul_le_mul_of_nonneg_right h (Int.le_trans h0 h))
theorem lt_of_sq {x y : Int} (hy : 0 ≤ y) (h : x * x < y * y) : x < y := by
  refine Int.not_le.1 fun hh => ?_
  have := mul_le_self hy hh
  omega
theorem le_of_sq {x y : Int} (hy : 0 ≤ y) (h : x * x ≤ y * y) : x ≤ y := by
  refine Int.not_lt.1 fun hh => ?_
  have h1 : y + 1 ≤ x := by omega
  have := mul_le_self (show 0 ≤ y + 1 by omega) h1
  have h2 : (y + 1) * (y + 1) = y * y + 2 * y + 1 := by grind
  omega
/-- r is the whole square root of d. -/
structure IsRoot (r d : Int) : Prop where
  nn : 0 ≤ r
  lo : r * r ≤ d
  hi : d < (r + 1) * (r + 1)
theorem root_unique {r s d : Int} (h : IsRoot r d) (h' : IsRoot s d) : r = s := by
  have h1 : r < s + 1 := lt_of_sq (by have := h'.nn; omega) (Int.lt_of_le_of_lt h.lo h'.hi)
  have h2 : s < r + 1 := lt_of_sq (by have := h.nn; omega) (Int.lt_of_le_of_lt h'.lo h.hi)
  omega
def rootUp : Nat → Nat → Nat
  | 0, _ => 0
  | k + 1, n => if (rootUp k n + 1) * (rootUp k n + 1) ≤ n then rootUp k n + 1 else rootUp k n
theorem rootUp_lo : ∀ (k n : Nat), rootUp k n * rootUp k n ≤ n
  | 0, n => by simp [rootUp]
  | k + 1, n => by
    unfold rootUp
    split
    · assumption
    · exact rootUp_lo k n
theorem rootUp_hi : ∀ (k n : Nat), k ≤ rootUp k n ∨ n < (rootUp k n + 1) * (rootUp k n + 1)
  | 0, n => by simp
  | k + 1, n => by
    have ih := rootUp_hi k n
    unfold rootUp
    split
    · rename_i h
      rcases ih with h1 | h1
      · left; omega
      · omega
    · rename_i h; right; omega
def isqrt (d : Int) : Int := (rootUp (d.toNat + 1) d.toNat : Nat)
theorem isqrt_root {d : Int} (h : 0 ≤ d) : IsRoot (isqrt d) d := by
  have h1 := rootUp_lo (d.toNat + 1) d.toNat
  have h2 := rootUp_hi (d.toNat + 1) d.toNat
  unfold isqrt
  generalize rootUp (d.toNat + 1) d.toNat = r at h1 h2
  have e : ((d.toNat : Nat) : Int) = d := by omega
  have h1' : (r : Int) * r ≤ d := by rw [← e]; exact_mod_cast h1
  refine ⟨by omega, h1', ?_⟩
  rcases h2 with h2 | h2
  · have h3 : d + 1 ≤ (r : Int) := by omega
    have h4 : (r : Int) ≤ r * r := by
      have := Int.mul_le_mul_of_nonneg_left (show (1 : Int) ≤ r by omega) (show (0 : Int) ≤ r by omega)
      omega
    omega
  · rw [← e]; exact_mod_cast h2
def sqB (d : Int) : Bool := isqrt d * isqrt d == d
/-- The Bool of 'isReduced'. -/
def disc (a b c : Int) : Int := b * b - 4 * a * c
def redDef (a b c : Int) : Bool := decide (-a ≤ b ∧ b ≤ a ∧ a ≤ c ∧ (0 ≤ b ∨ (-b ≠ a ∧ a ≠ c)))
def redInd (a b c : Int) : Bool := decide (0 < b ∧ b * b < disc a b c ∧ disc a b c < (2 * (a.natAbs : Int) + b) * (2 * (a.natAbs : Int) + b) ∧ (2 * (a.natAbs : Int) < b ∨ (2 * (a.natAbs : Int) - b) * (2 * (a.natAbs : Int) - b) < disc a b c))
def redB (a b c : Int) : Bool := if disc a b c < 0 ∧ 0 < a then redDef a b c else redInd a b c
theorem disc_bd {a b c : Int} (h : Small a b c) : -4000000000000 ≤ disc a b c ∧ disc a b c ≤ 5000000000000 := by
  obtain ⟨a0, a1, b0, b1, c0, c1⟩ := h
  have h1 := mul_bd b0 b1 b0 b1
  have h2 := mul_bd (a := 4 * a) (b := c) (A := 4000000) (B := 1000000) (by omega) (by omega) c0 c1
  have h3 := sq_nn b
  unfold disc
  omega
end Go.Proofs.Ytkhlgphmimddhaa
