/- Plain facts: the whole square root by halves; reduced forms. -/
import Derived.Test.YtkhlgphmimddhaaN5
namespace Go.Proofs.Ytkhlgphmimddhaa
structure SqInv (n x y : Int) : Prop where
  lo : x * x ≤ n
  st : (y = 0 ∧ n < (x + 1) * (x + 1)) ∨ ∃ j : Nat, y = ((2 ^ j : Nat) : Int) ∧ n < (x + 2 * y) * (x + 2 * y)
theorem sqInv_start {n : Int} (h0 : 0 ≤ n) (h : n ≤ 5000000000000) : SqInv n 0 2147483648 :=
  ⟨by simpa using h0, .inr ⟨31, by decide, by omega⟩⟩
theorem sqInv_x {n x y : Int} (h : SqInv n x y) (hn : n ≤ 5000000000000) : x ≤ 2236068 := by
  refine Int.not_lt.1 fun hh => ?_
  have h1 := mul_le_self (show (0 : Int) ≤ 2236069 by omega) (show (2236069 : Int) ≤ x by omega)
  have := h.lo
  omega
theorem sqInv_half {n x x' y : Int} (hy : 0 < y) (h : SqInv n x y) (hlo : x' * x' ≤ n) (hhi : n < (x' + y) * (x' + y)) : SqInv n x' (y / 2) := by
  refine ⟨hlo, ?_⟩
  rcases h.st with ⟨h1, _⟩ | ⟨j, hj, _⟩
  · omega
  · cases j with
    | zero => left; simp at hj; subst hj; exact ⟨by decide, hhi⟩
    | succ j =>
      right
      refine ⟨j, ?_, ?_⟩
      · rw [hj, Nat.pow_succ]; omega
      · have : 2 * (y / 2) = y := by rw [hj, Nat.pow_succ]; omega
        rw [this]; exact hhi
theorem sqInv_no {n x y : Int} (hy : 0 < y) (h : SqInv n x y) (hno : ¬ (x + y) * (x + y) ≤ n) : SqInv n x (y / 2) := sqInv_half hy h h.lo (by omega)
theorem sqInv_yes {n x y : Int} (hy : 0 < y) (h : SqInv n x y) (hyes : (x + y) * (x + y) ≤ n) : SqInv n (x + y) (y / 2) := by
  refine sqInv_half hy h hyes ?_
  rcases h.st with ⟨h1, _⟩ | ⟨j, _, h2⟩
  · omega
  · have : x + y + y = x + 2 * y := by omega
    rw [this]; exact h2
theorem sqInv_end {n x : Int} (h : SqInv n x 0) (hx : 0 ≤ x) : IsRoot x n := by
  refine ⟨hx, h.lo, ?_⟩
  rcases h.st with ⟨_, h2⟩ | ⟨j, hj, _⟩
  · exact h2
  · have := Nat.two_pow_pos j
    omega
theorem sqB_eq {n x : Int} (h : IsRoot x n) (hn : 0 ≤ n) : (x * x == n) = sqB n := by
  unfold sqB; rw [root_unique h (isqrt_root hn)]
theorem isqrt_le {d K : Int} (h0 : 0 ≤ d) (hK : 0 ≤ K) (h : d < (K + 1) * (K + 1)) : isqrt d ≤ K := by
  have := (isqrt_root h0).lo
  have := lt_of_sq (show 0 ≤ K + 1 by omega) (Int.lt_of_le_of_lt this h)
  omega
theorem isqrt_bd {d : Int} (h0 : 0 ≤ d) (h1 : d ≤ 5000000000000) : 0 ≤ isqrt d ∧ isqrt d ≤ 2236068 := ⟨(isqrt_root h0).nn, isqrt_le h0 (by omega) (by omega)⟩
end Go.Proofs.Ytkhlgphmimddhaa
