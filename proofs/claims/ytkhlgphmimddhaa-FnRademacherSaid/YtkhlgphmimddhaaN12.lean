/- Plain facts: reciprocity of the sums of h and k. -/
import Derived.Test.YtkhlgphmimddhaaN11
namespace Go.Proofs.Ytkhlgphmimddhaa
theorem mul_mod_inj {h k : Nat} (hc : Nat.Coprime h k) (i j : Nat) (hi : i < k) (hj : j < k) (e : (h * i) % k = (h * j) % k) : i = j := by
  have key : ∀ i j : Nat, i ≤ j → j < k → (h * i) % k = (h * j) % k → i = j := by
    intro i j hij hj e
    have h1 : k ∣ h * j - h * i := Nat.dvd_of_mod_eq_zero (Nat.sub_mod_eq_zero_of_mod_eq e.symm)
    rw [← Nat.mul_sub] at h1
    have h2 : k ∣ j - i := (Nat.Coprime.dvd_of_dvd_mul_left (Nat.Coprime.symm hc) h1)
    have := Nat.eq_zero_of_dvd_of_lt h2 (by omega)
    omega
  rcases Nat.le_total i j with hle | hle
  · exact key i j hle hj e
  · exact (key j i hle hi e.symm).symm
def qS (h k : Nat) : Int := S k fun i => ((h * i / k : Nat) : Int)
def qQ (h k : Nat) : Int := S k fun i => ((h * i / k : Nat) : Int) * ((h * i / k : Nat) : Int)
def qT (h k : Nat) : Int := S k fun i => (i : Int) * ((h * i / k : Nat) : Int)
def iS (k : Nat) : Int := S k fun i => (i : Int)
def iQ (k : Nat) : Int := S k fun i => (i : Int) * i
def fT (h k : Nat) : Int := S k fun i => (2 * (i : Int) - k) * (2 * ((h * i % k : Nat) : Int) - k)
theorem rest_form (h k i : Nat) : ((h * i % k : Nat) : Int) = h * i - k * ((h * i / k : Nat) : Int) := by
  have := Nat.div_add_mod (h * i) k
  have e : ((k * (h * i / k) + h * i % k : Nat) : Int) = ((h * i : Nat) : Int) := by rw [this]
  push_cast at e ⊢
  omega
theorem perm1 {h k : Nat} (hk : 0 < k) (hc : Nat.Coprime h k) (f : Nat → Int) : S k (fun i => f (h * i % k)) = S k f :=
  S_perm (mul_mod_inj hc) (fun _ _ => Nat.mod_lt _ hk) f
theorem sum_U {h k : Nat} (hk : 0 < k) (hc : Nat.Coprime h k) : h * iS k - k * qS h k = iS k := by
  have e := perm1 hk hc (fun i => (i : Int))
  rw [S_congr (fun i _ => rest_form h k i), S_sub] at e
  unfold iS qS
  rw [← S_mul, ← S_mul]
  exact e
theorem sum_Q {h k : Nat} (hk : 0 < k) (hc : Nat.Coprime h k) : (h : Int) * h * iQ k - 2 * h * k * qT h k + (k : Int) * k * qQ h k = iQ k := by
  have e := perm1 hk hc (fun i => (i : Int) * i)
  rw [S_congr (g := fun i => ((h : Int) * h * ((i : Int) * i) - 2 * h * k * ((i : Int) * ((h * i / k : Nat) : Int))) + (k : Int) * k * (((h * i / k : Nat) : Int) * ((h * i / k : Nat) : Int)))
    (fun i _ => by simp only [rest_form]; grind), S_add, S_sub, S_mul, S_mul, S_mul] at e
  exact e
theorem sum_F {h k : Nat} (hk : 0 < k) (hc : Nat.Coprime h k) : fT h k = 4 * (h * iQ k - k * qT h k) - 4 * k * iS k + (k : Int) * k * k := by
  have e := perm1 hk hc (fun i => (i : Int))
  have e2 : fT h k = S k fun i => ((4 * (h : Int) * ((i : Int) * i) - 4 * k * ((i : Int) * ((h * i / k : Nat) : Int))) - 2 * k * (i : Int)) - 2 * k * (((h * i % k : Nat) : Int)) + (k : Int) * k := by
    refine S_congr fun i _ => ?_
    rw [rest_form]; grind
  rw [e2, S_add, S_sub, S_sub, S_sub, S_mul, S_mul, S_mul, S_mul, S_const, e]
  unfold iQ qT iS
  grind
theorem lattice {h k : Nat} (hh : 0 < h) (hk : 0 < k) (hc : Nat.Coprime h k) : qQ h k + qS h k = 2 * (k - 1) * iS h - 2 * qT k h := by
  have e1 : qQ h k + qS h k = S k (fun i => S h (fun j => if j ≤ h * i / k then 2 * (j : Int) else 0)) := by
    unfold qQ qS
    rw [← S_add]
    refine S_congr fun i hi => ?_
    have hq : h * i / k < h := by
      refine (Nat.div_lt_iff_lt_mul hk).2 ?_
      exact (Nat.mul_lt_mul_left hh).2 hi
    rw [S_upto hq]; grind
  rw [e1, S_swap]
  unfold iS qT
  rw [← S_mul, ← S_mul, ← S_sub]
  refine S_congr fun j hj => ?_
  rcases Nat.eq_zero_or_pos j with h0 | h0
  · subst h0
    rw [S_congr (g := fun _ => 0) (fun i _ => by split <;> simp), S_zero]; simp
  · have hq : k * j / h < k := by
      refine (Nat.div_lt_iff_lt_mul hh).2 ?_
      exact (Nat.mul_lt_mul_left hk).2 hj
    rw [S_congr (g := fun i => if k * j / h < i then 2 * (j : Int) else 0) (fun i hi => ?_), S_from hq]
    · grind
    · have h1 : (j ≤ h * i / k) ↔ k * j / h < i := by
        rw [Nat.le_div_iff_mul_le hk, Nat.div_lt_iff_lt_mul hh, Nat.mul_comm j k, Nat.mul_comm i h]
        constructor
        · intro hle
          rcases Nat.lt_or_eq_of_le hle with h2 | h2
          · exact h2
          · exfalso
            have h3 : h ∣ k * j := ⟨i, h2⟩
            have h4 : h ∣ j := Nat.Coprime.dvd_of_dvd_mul_left hc h3
            have := Nat.eq_zero_of_dvd_of_lt h4 hj
            omega
        · intro hlt; omega
      by_cases h2 : j ≤ h * i / k
      · rw [if_pos h2, if_pos (h1.1 h2)]
      · rw [if_neg h2, if_neg (fun h3 => h2 (h1.2 h3))]
/-- 'fourTimes' as a sum. -/
def fourN (h k : Nat) : Int := fT h k - (k : Int) * k
theorem rec1 (x y a2 T Q : Int) (Q1 : x * x * a2 - 2 * x * y * T + y * y * Q = a2) : 12 * x * x * (x * a2 - y * T) = 6 * x * x * x * a2 + 6 * x * a2 - 6 * x * y * y * Q := by
  have h := congrArg (fun z => 6 * x * z) Q1
  try simp only at h
  grind
theorem rec2 (x y b1 T' Q U : Int) (L : Q + U = 2 * (y - 1) * b1 - 2 * T') : 12 * y * y * (x * T') = 12 * x * y * y * y * b1 - 12 * x * y * y * b1 - 6 * x * y * y * Q - 6 * x * y * y * U := by
  have h := congrArg (fun z => 6 * x * y * y * z) L
  try simp only at h
  grind
theorem rec3 (x y a1 U : Int) (U1 : x * a1 - y * U = a1) : 6 * x * y * y * U = 6 * x * x * y * a1 - 6 * x * y * a1 := by
  have h := congrArg (fun z => 6 * x * y * z) U1
  try simp only at h
  grind
theorem rec4 (x y : Int) : (x * x * x + x) * (y * (y - 1) * (2 * y - 1)) - 3 * x * x * y * (y * (y - 1)) - 3 * x * y * (y * (y - 1)) + 2 * y * y * y * (x * (x - 1) * (2 * x - 1)) - 6 * x * y * y * y * (x * (x - 1)) + 3 * x * x * y * y * y - 6 * x * x * y * y + 3 * x * x * x * y * y = x * y * (x * x + y * y + 1 - 3 * x * y) := by
  grind
theorem rec_all (x y a1 a2 b1 b2 T T' Q U : Int) (A1 : 2 * a1 = y * (y - 1)) (A2 : 6 * a2 = y * (y - 1) * (2 * y - 1)) (B1 : 2 * b1 = x * (x - 1)) (B2 : 6 * b2 = x * (x - 1) * (2 * x - 1))
    (L : Q + U = 2 * (y - 1) * b1 - 2 * T') (U1 : x * a1 - y * U = a1) (Q1 : x * x * a2 - 2 * x * y * T + y * y * Q = a2) :
    3 * x * x * (4 * (x * a2 - y * T) - 4 * y * a1 + y * y * y - y * y) + 3 * y * y * (4 * (y * b2 - x * T') - 4 * x * b1 + x * x * x - x * x) = x * y * (x * x + y * y + 1 - 3 * x * y) := by
  have e1 := rec1 x y a2 T Q Q1
  have e2 := rec2 x y b1 T' Q U L
  have e3 := rec3 x y a1 U U1
  have e4 := rec4 x y
  rw [← A2, ← A1, ← B2, ← B1] at e4
  clear A1 A2 B1 B2 L U1 Q1
  rw [← e4]
  clear e4
  grind
theorem reciprocity {h k : Nat} (hh : 0 < h) (hk : 0 < k) (hc : Nat.Coprime h k) :
    3 * (h : Int) * h * fourN h k + 3 * (k : Int) * k * fourN k h = h * k * ((h : Int) * h + k * k + 1 - 3 * h * k) := by
  have F1 := sum_F hk hc
  have F2 := sum_F hh (Nat.Coprime.symm hc)
  have U1 := sum_U hk hc
  have Q1 := sum_Q hk hc
  have L := lattice hh hk hc
  have A1 : 2 * iS k = _ := S_id k
  have A2 : 6 * iQ k = _ := S_sq k
  have B1 : 2 * iS h = _ := S_id h
  have B2 : 6 * iQ h = _ := S_sq h
  unfold fourN
  rw [F1, F2]
  exact rec_all _ _ _ _ _ _ _ _ _ _ A1 A2 B1 B2 L U1 Q1
end Go.Proofs.Ytkhlgphmimddhaa
