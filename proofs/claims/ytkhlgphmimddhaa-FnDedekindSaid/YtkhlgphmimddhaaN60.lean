/- Plain: sums of inverses are equal. -/
import Derived.Test.YtkhlgphmimddhaaN53
namespace Go.Proofs.Ytkhlgphmimddhaa
theorem fourN_inv {h h' k : Nat} (hk : 0 < k) (hc : Nat.Coprime h k) (hh : (h * h') % k = 1 % k) : fourN h' k = fourN h k := by
  rw [← part_end, ← part_end]
  congr 1
  rw [← S_perm (n := k) (g := fun i => h * i % k) (fun i j hi hj e => mul_mod_inj hc i j hi hj e) (fun i _ => Nat.mod_lt _ hk) (gT h' k)]
  refine S_congr fun i hi => ?_
  unfold gT
  have e : h' * (h * i % k) % k = i := by
    rw [Nat.mul_mod, Nat.mod_mod, ← Nat.mul_mod, ← Nat.mul_assoc, Nat.mul_comm h' h, Nat.mul_mod, hh, ← Nat.mul_mod, Nat.one_mul, Nat.mod_eq_of_lt hi]
  rw [e, Int.mul_comm]
theorem fourZ_inv {h i k : Int} (hk : 0 < k) (hg : Int.gcd h k = 1) (hh : h * i % k = 1 % k) : fourZ i k = fourZ h k := by
  unfold fourZ
  have h0 := Int.emod_nonneg h (show k ≠ 0 by omega)
  have i0 := Int.emod_nonneg i (show k ≠ 0 by omega)
  refine fourN_inv (by omega) (gcd_cop hk hg) ?_
  have e : (((h % k).toNat * (i % k).toNat % k.toNat : Nat) : Int) = ((1 % k.toNat : Nat) : Int) := by
    push_cast
    rw [Int.toNat_of_nonneg h0, Int.toNat_of_nonneg i0, Int.toNat_of_nonneg (show 0 ≤ k by omega), ← Int.mul_emod]
    exact hh
  exact_mod_cast e
end Go.Proofs.Ytkhlgphmimddhaa
