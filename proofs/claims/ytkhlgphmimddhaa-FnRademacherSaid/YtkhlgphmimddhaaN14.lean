/- Plain facts: the sums of h and k over the whole numbers; their bounds; partial sums. -/
import Derived.Test.YtkhlgphmimddhaaN13
namespace Go.Proofs.Ytkhlgphmimddhaa
def fourZ (h k : Int) : Int := fourN (h % k).toNat k.toNat
def lZ (h k : Int) : Int := lN (h % k).toNat k.toNat
def gT (h k : Nat) (i : Nat) : Int := (2 * (i : Int) - k) * (2 * ((h * i % k : Nat) : Int) - k)
theorem S_bd {n : Nat} {f : Nat → Int} {B : Int} (h : ∀ i, i < n → -B ≤ f i ∧ f i ≤ B) : -(n * B) ≤ S n f ∧ S n f ≤ n * B := by
  induction n with
  | zero => simp [S]
  | succ n ih =>
    have h1 := ih (fun i hi => h i (by omega))
    have h2 := h n (by omega)
    simp only [S_succ]
    push_cast
    rw [Int.add_mul]
    omega
theorem gT_bd {h k i : Nat} (hi : i < k) : -((k : Int) * k) ≤ gT h k i ∧ gT h k i ≤ (k : Int) * k := by
  have h1 := Nat.mod_lt (h * i) (show 0 < k by omega)
  exact mul_bd (by omega) (by omega) (by omega) (by omega)
theorem part_bd {h k n : Nat} (hn : n ≤ k) (hk : k ≤ 20000) : -8000000000000 ≤ S n (gT h k) ∧ S n (gT h k) ≤ 8000000000000 := by
  have h1 := S_bd (n := n) (f := gT h k) (fun i hi => gT_bd (by omega))
  have h2 := mul_bd (a := (k : Int)) (b := (k : Int)) (A := 20000) (B := 20000) (by omega) (by omega) (by omega) (by omega)
  have h3 := mul_bd (a := (n : Int)) (b := (k : Int) * k) (A := 20000) (B := 400000000) (by omega) (by omega) (by omega) (by omega)
  omega
theorem part_start (h k : Nat) : S 1 (gT h k) - (k : Int) * k = 0 := by
  show S 0 _ + gT h k 0 - _ = 0
  simp only [S, gT, Nat.mul_zero, Nat.zero_mod]
  push_cast
  grind
theorem part_end (h k : Nat) : S k (gT h k) - (k : Int) * k = fourN h k := rfl
theorem gcd_cop {h k : Int} (hk : 0 < k) (hg : Int.gcd h k = 1) : Nat.Coprime (h % k).toNat k.toNat := by
  have h0 := Int.emod_nonneg h (show k ≠ 0 by omega)
  have e : Int.gcd (h % k) k = 1 := by
    refine Nat.dvd_one.1 ?_
    rw [← hg]
    have h1 := Int.gcd_dvd_left (h % k) k
    have h2 := Int.gcd_dvd_right (h % k) k
    refine Int.dvd_gcd ?_ h2
    have e3 := Int.dvd_add (Int.dvd_trans h2 (Int.dvd_mul_right k (h / k))) h1
    rwa [Int.mul_ediv_add_emod h k] at e3
  show Nat.gcd _ _ = 1
  have e1 : (h % k).natAbs = (h % k).toNat := by omega
  have e2 : k.natAbs = k.toNat := by omega
  rw [← e1, ← e2]
  exact e
theorem lZ_eq {h k : Int} (hk : 0 < k) (hg : Int.gcd h k = 1) : k * lZ h k = 3 * fourZ h k := by
  have hc := gcd_cop hk hg
  unfold lZ fourZ
  have ek : ((k.toNat : Nat) : Int) = k := by omega
  rcases Nat.eq_zero_or_pos (h % k).toNat with h0 | h0
  · rw [h0] at hc ⊢
    have : k.toNat = 1 := by have := hc; unfold Nat.Coprime at this; rw [Nat.gcd_zero_left] at this; exact this
    unfold lN
    rw [this, fourN_one]; simp
  · have := lN_eq h0 (show 0 < k.toNat by omega) hc
    rwa [ek] at this
theorem fourZ_bd {h k : Int} (h1 : k ≤ 20000) : -8400000000000 ≤ fourZ h k ∧ fourZ h k ≤ 8400000000000 := by
  have h2 := part_bd (h := (h % k).toNat) (k := k.toNat) (n := k.toNat) (Nat.le_refl _) (by omega)
  have h3 := mul_bd (a := (k.toNat : Int)) (b := (k.toNat : Int)) (A := 20000) (B := 20000) (by omega) (by omega) (by omega) (by omega)
  have := part_end (h % k).toNat k.toNat
  unfold fourZ
  omega
theorem lZ_bd {h k : Int} (k0 : 1 ≤ k) (h1 : k ≤ 20000) (hg : Int.gcd h k = 1) : -26000000000000 ≤ lZ h k ∧ lZ h k ≤ 26000000000000 := by
  have e := lZ_eq (by omega) hg
  have b := fourZ_bd (h := h) h1
  have e1 : k * lZ h k ≤ 26000000000000 := by omega
  have e2 : -26000000000000 ≤ k * lZ h k := by omega
  constructor
  · refine Int.not_lt.1 fun hh => ?_
    have := Int.mul_le_mul_of_nonneg_right k0 (show 0 ≤ -lZ h k by omega)
    simp only [Int.mul_neg] at this; omega
  · refine Int.not_lt.1 fun hh => ?_
    have := Int.mul_le_mul_of_nonneg_right k0 (show 0 ≤ lZ h k by omega)
    omega
structure LRec (h k : Int) : Prop where
  h0 : 0 < h % k
  h1 : h % k < k
  g : Int.gcd k (h % k) = 1
  quo : ((h % k) * (h % k) + k * k + 1 - 3 * (h % k) * k - k * lZ k (h % k)).tdiv (h % k) = lZ h k
theorem lZ_rec {h k : Int} (hk : 1 < k) (hg : Int.gcd h k = 1) : LRec h k := by
  have h0 := Int.emod_nonneg h (show k ≠ 0 by omega)
  have h1 := Int.emod_lt_of_pos h (show 0 < k by omega)
  have hc := gcd_cop (show 0 < k by omega) hg
  have hp : 0 < h % k := by
    rcases Int.lt_or_eq_of_le h0 with h2 | h2
    · exact h2
    · exfalso
      rw [← h2] at hc
      have : k.toNat = 1 := by unfold Nat.Coprime at hc; simpa using hc
      omega
  refine ⟨hp, h1, ?_, ?_⟩
  · have := Nat.Coprime.symm hc
    unfold Nat.Coprime at this
    rw [← this]
    show Nat.gcd _ _ = _
    congr 1 <;> omega
  · have r := lN_rec (h := (h % k).toNat) (k := k.toNat) (by omega) (by omega) hc
    have e : lZ k (h % k) = lN k.toNat (h % k).toNat := by
      unfold lZ lN
      have : (k % (h % k)).toNat = k.toNat % (h % k).toNat := Int.toNat_emod (by omega) h0
      rw [this, fourN_mod]
    rw [e]
    have e1 : (((h % k).toNat : Nat) : Int) = h % k := by omega
    have e2 : ((k.toNat : Nat) : Int) = k := by omega
    rw [e1, e2] at r
    rw [← r]
    exact Int.mul_tdiv_cancel_left _ (by omega)
end Go.Proofs.Ytkhlgphmimddhaa
