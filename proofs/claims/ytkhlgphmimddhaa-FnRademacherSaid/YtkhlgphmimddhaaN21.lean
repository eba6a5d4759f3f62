/- Plain: sums of squares of sums, for small k. -/
import Derived.Test.YtkhlgphmimddhaaN20
namespace Go.Proofs.Ytkhlgphmimddhaa
theorem fourZ_12 {h k : Int} (k0 : 1 ≤ k) (k1 : k ≤ 12) : -2000 ≤ fourZ h k ∧ fourZ h k ≤ 2000 := by
  obtain ⟨K, rfl⟩ := Int.eq_ofNat_of_zero_le (show 0 ≤ k by omega)
  have h1 := S_bd (n := K) (f := gT (h % K).toNat K) (fun i hi => gT_bd hi)
  have e1 := mul_bd (a := (K : Int)) (b := (K : Int)) (A := 12) (B := 12) (by omega) (by omega) (by omega) (by omega)
  have e2 := mul_bd (a := (K : Int)) (b := (K : Int) * K) (A := 12) (B := 144) (by omega) (by omega) (by omega) (by omega)
  have h3 := part_end (h % K).toNat K
  unfold fourZ
  rw [Int.toNat_natCast]
  omega
theorem lZ_12 {h k : Int} (k0 : 1 ≤ k) (k1 : k ≤ 12) (hg : Int.gcd h k = 1) : -6000 ≤ lZ h k ∧ lZ h k ≤ 6000 := by
  have e := lZ_eq (by omega) hg
  have b := fourZ_12 (h := h) k0 k1
  have e1 : k * lZ h k ≤ 6000 := by omega
  have e2 : -6000 ≤ k * lZ h k := by omega
  constructor
  · refine Int.not_lt.1 fun hh => ?_
    have := Int.mul_le_mul_of_nonneg_right k0 (show 0 ≤ -lZ h k by omega)
    simp only [Int.mul_neg] at this; omega
  · refine Int.not_lt.1 fun hh => ?_
    have := Int.mul_le_mul_of_nonneg_right k0 (show 0 ≤ lZ h k by omega)
    omega
def sqF (k : Int) (l : List Int) : Int := (l.map fun h => fourZ h k * fourZ h k).sum
def sqL (k : Int) (l : List Int) : Int := (l.map fun h => lZ h k * lZ h k).sum
theorem sqF_snoc (k : Int) (l : List Int) (x : Int) : sqF k (l ++ [x]) = sqF k l + fourZ x k * fourZ x k := by simp [sqF]
theorem sqL_snoc (k : Int) (l : List Int) (x : Int) : sqL k (l ++ [x]) = sqL k l + lZ x k * lZ x k := by simp [sqL]
theorem take_snocI (l : List Int) {j : Nat} (h : j < l.length) : l.take (j + 1) = l.take j ++ [l.getD j 0] := by
  rw [List.take_add_one, List.getElem?_eq_getElem h, List.getD, List.getElem?_eq_getElem h]; rfl
theorem sqF_bd {k : Int} (k0 : 1 ≤ k) (k1 : k ≤ 12) (l : List Int) : 0 ≤ sqF k l ∧ sqF k l ≤ 4000000 * l.length := by
  induction l with
  | nil => simp [sqF]
  | cons x l ih =>
    have h1 := fourZ_12 (h := x) k0 k1
    have h2 := mul_bd (a := fourZ x k) (b := fourZ x k) (A := 2000) (B := 2000) (by omega) (by omega) (by omega) (by omega)
    have h3 := sq_nn (fourZ x k)
    have e : sqF k (x :: l) = fourZ x k * fourZ x k + sqF k l := by simp [sqF]
    rw [e]; simp only [List.length_cons]; push_cast; omega
theorem sqL_bd {k : Int} (k0 : 1 ≤ k) (k1 : k ≤ 12) (l : List Int) (hl : ∀ x ∈ l, (Int.gcd x k : Int) = 1) : 0 ≤ sqL k l ∧ sqL k l ≤ 36000000 * l.length := by
  induction l with
  | nil => simp [sqL]
  | cons x l ih =>
    have ih := ih (fun y hy => hl y (List.mem_cons_of_mem _ hy))
    have h1 := lZ_12 (h := x) k0 k1 (by exact_mod_cast hl x (by simp))
    have h2 := mul_bd (a := lZ x k) (b := lZ x k) (A := 6000) (B := 6000) (by omega) (by omega) (by omega) (by omega)
    have h3 := sq_nn (lZ x k)
    have e : sqL k (x :: l) = lZ x k * lZ x k + sqL k l := by simp [sqL]
    rw [e]; simp only [List.length_cons]; push_cast; omega
theorem sq_rel {k : Int} (hk : 0 < k) (l : List Int) (hl : ∀ x ∈ l, (Int.gcd x k : Int) = 1) : 9 * sqF k l = k * k * sqL k l := by
  induction l with
  | nil => simp [sqF, sqL]
  | cons x l ih =>
    have ih := ih (fun y hy => hl y (List.mem_cons_of_mem _ hy))
    have h1 := lZ_eq hk (by exact_mod_cast hl x (by simp) : Int.gcd x k = 1)
    have e : sqL k (x :: l) = lZ x k * lZ x k + sqL k l := by simp [sqL]
    have e2 : sqF k (x :: l) = fourZ x k * fourZ x k + sqF k l := by simp [sqF]
    have h4 : 9 * (fourZ x k * fourZ x k) = k * k * (lZ x k * lZ x k) := by
      have : (3 * fourZ x k) * (3 * fourZ x k) = (k * lZ x k) * (k * lZ x k) := by rw [h1]
      grind
    rw [e, e2]; grind
theorem uGcd {k : Int} {m : Nat} : ∀ x ∈ unitsL k m, (Int.gcd x k : Int) = 1 := fun _ hx => (unitsL_mem hx).2.2
end Go.Proofs.Ytkhlgphmimddhaa
