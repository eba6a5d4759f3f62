/- Plain facts: the sums of h and k, as both programs count them. -/
import Derived.Test.YtkhlgphmimddhaaN12
namespace Go.Proofs.Ytkhlgphmimddhaa
theorem fourN_mod (h k : Nat) : fourN (h % k) k = fourN h k := by
  unfold fourN fT
  rw [S_congr (fun i _ => by rw [show (h % k * i) % k = (h * i) % k by rw [Nat.mul_mod, Nat.mod_mod, ← Nat.mul_mod]])]
theorem three_dvd {h k : Nat} (hh : 0 < h) (hk : 0 < k) (hc : Nat.Coprime h k) : (k : Int) ∣ 3 * fourN h k := by
  have r := reciprocity hh hk hc
  have h1 : (k : Int) ∣ (h * h : Nat) * (3 * fourN h k) := by
    refine ⟨h * ((h : Int) * h + k * k + 1 - 3 * h * k) - 3 * k * fourN k h, ?_⟩
    push_cast
    grind
  have h2 : Nat.Coprime k (h * h) := Nat.Coprime.mul_right (Nat.Coprime.symm hc) (Nat.Coprime.symm hc)
  have h3 : k ∣ (h * h) * (3 * fourN h k).natAbs := by
    have := Int.ofNat_dvd_left.1 h1
    rwa [Int.natAbs_mul, Int.natAbs_natCast] at this
  exact Int.ofNat_dvd_left.2 (Nat.Coprime.dvd_of_dvd_mul_left h2 h3)
def lN (h k : Nat) : Int := 3 * fourN h k / k
theorem lN_eq {h k : Nat} (hh : 0 < h) (hk : 0 < k) (hc : Nat.Coprime h k) : k * lN h k = 3 * fourN h k := Int.mul_ediv_cancel' (three_dvd hh hk hc)
theorem lN_rec {h k : Nat} (hh : 0 < h) (hk : 0 < k) (hc : Nat.Coprime h k) : (h : Int) * lN h k = h * h + k * k + 1 - 3 * h * k - k * lN k h := by
  have r := reciprocity hh hk hc
  have e1 := lN_eq hh hk hc
  have e2 := lN_eq hk hh (Nat.Coprime.symm hc)
  have hp : (0 : Int) < h * k := Int.mul_pos (by omega) (by omega)
  have e : ((h : Int) * k) * (h * lN h k) = (h * k) * (h * h + k * k + 1 - 3 * h * k - k * lN k h) := by
    have e1' : (h : Int) * h * (k * lN h k) = h * h * (3 * fourN h k) := by rw [e1]
    have e2' : (k : Int) * k * (h * lN k h) = k * k * (3 * fourN k h) := by rw [e2]
    grind
  exact Int.eq_of_mul_eq_mul_left (by omega) e
theorem fourN_one (h : Nat) : fourN h 1 = 0 := by
  unfold fourN fT
  simp only [S_succ]
  simp [S]
end Go.Proofs.Ytkhlgphmimddhaa
