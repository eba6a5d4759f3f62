/- Plain: a line is as long as the index tells (levels up to 60, by the kernel). -/
import Derived.Test.YtjgnhnbhcnfdbaaN50
namespace Go.Proofs.Ytjgnhnbhcnfdbaa
/-- No multiple by a unit from u on, of some, is less. -/
def nless (n c d : Nat) : Nat → Nat → Bool
  | 0, _ => true
  | f + 1, u => (!Nat.beq (Nat.gcd u n) 1 || (Nat.ble c (u * c % n) && (!Nat.beq c (u * c % n) || Nat.ble d (u * d % n)))) && nless n c d f (u + 1)
def selfN (n c d : Nat) : Bool := Nat.beq (Nat.gcd (Nat.gcd c d) n) 1 && nless n c d (n - 1) 1
def cntRow (n c : Nat) : Nat → Nat
  | 0 => 0
  | d + 1 => cond (selfN n c d) (cntRow n c d + 1) (cntRow n c d)
def cntTo (n : Nat) : Nat → Nat
  | 0 => 0
  | c + 1 => cntTo n c + cntRow n c n
theorem nless_iff {n c d : Nat} : ∀ (f u : Nat), nless n c d f u = true ↔ ∀ v, u ≤ v → v < u + f → Nat.gcd v n = 1 → (c < v * c % n ∨ (c = v * c % n ∧ d ≤ v * d % n))
  | 0, u => by simp [nless]; omega
  | f + 1, u => by
    unfold nless
    rw [Bool.and_eq_true, nless_iff f (u + 1)]
    have e : (!Nat.beq (Nat.gcd u n) 1 || (Nat.ble c (u * c % n) && (!Nat.beq c (u * c % n) || Nat.ble d (u * d % n)))) = true ↔ (Nat.gcd u n = 1 → (c < u * c % n ∨ (c = u * c % n ∧ d ≤ u * d % n))) := by
      generalize u * c % n = x
      generalize u * d % n = y
      simp only [Bool.or_eq_true, Bool.and_eq_true, Bool.not_eq_true', Nat.ble_eq, ← Bool.not_eq_true, Nat.beq_eq]
      omega
    rw [e]
    constructor
    · rintro ⟨h1, h2⟩ v hv hv2 hg
      by_cases ev : v = u
      · subst ev; exact h1 hg
      · exact h2 v (by omega) (by omega) hg
    · intro h
      exact ⟨h u (Nat.le_refl _) (by omega), fun v hv hv2 hg => h v (by omega) (by omega) hg⟩
theorem selfN_eq {n c d : Nat} (hn : 0 < n) (_ : c < n) (_ : d < n) : selfB (n : Int) c d = selfN n c d := by
  have e1 : isPairB (n : Int) c d = Nat.beq (Nat.gcd (Nat.gcd c d) n) 1 := by
    rw [Bool.eq_iff_iff, Nat.beq_eq]
    unfold isPairB
    rw [beq_iff_eq]
    have : (Int.gcd (Int.gcd (c : Int) (d : Int) : Int) (n : Int) : Int) = ((Nat.gcd (Nat.gcd c d) n : Nat) : Int) := rfl
    rw [this]; omega
  have e2 : decide (normal (n : Int) c d = ⟨c, d⟩) = nless n c d (n - 1) 1 := by
    rw [Bool.eq_iff_iff, decide_eq_true_eq, nless_iff]
    have cast : ∀ v x : Nat, ((v : Int) * (x : Int)) % (n : Int) = ((v * x % n : Nat) : Int) := fun v x => by push_cast; rfl
    constructor
    · intro h v h1 h2 hg
      have := nrm_min (n := (n : Int)) (c := c) (d := d) ((n : Int) - 1).toNat (v - 1) (by omega) (by
        rw [show (((v - 1 : Nat)) : Int) + 1 = (v : Int) by omega]
        exact_mod_cast hg)
      rw [show (((v - 1 : Nat)) : Int) + 1 = (v : Int) by omega, show nrm (n : Int) c d ((n : Int) - 1).toNat = ⟨c, d⟩ from h, cast, cast] at this
      unfold NotLess at this
      rw [lexB_no] at this
      simp only at this
      omega
    · intro h
      have hs := nrm_self (n := (n : Int)) (c := c) (d := d) ((n : Int) - 1).toNat
      rcases nrm_form (n := (n : Int)) (c := c) (d := d) ((n : Int) - 1).toNat with e | ⟨j, hj, hg, e⟩
      · exact e
      · have h2 := h (j + 1) (by omega) (by omega) (by
          have : ((j : Int) + 1) = ((j + 1 : Nat) : Int) := by push_cast; rfl
          rw [this] at hg
          exact_mod_cast hg)
        unfold normal
        rw [e] at hs ⊢
        rw [show ((j : Int) + 1) = ((j + 1 : Nat) : Int) by push_cast; rfl, cast, cast] at hs ⊢
        unfold NotLess at hs
        rw [lexB_no] at hs
        simp only at hs
        rw [show (((j + 1) * c % n : Nat) : Int) = (c : Int) by omega, show (((j + 1) * d % n : Nat) : Int) = (d : Int) by omega]
  unfold selfB selfN
  rw [e1, e2]
theorem lineRow_cnt {n c : Nat} (hn : 0 < n) (hc : c < n) : ∀ m, m ≤ n → (lineRow (n : Int) c m).length = cntRow n c m
  | 0, _ => rfl
  | m + 1, hm => by
    have ih := lineRow_cnt hn hc m (by omega)
    unfold lineRow cntRow
    rw [List.length_append, ih, selfN_eq hn hc (show m < n by omega)]
    cases selfN n c m <;> simp
theorem lineTo_cnt {n : Nat} (hn : 0 < n) : ∀ m, m ≤ n → (lineTo (n : Int) n m).length = cntTo n m
  | 0, _ => rfl
  | m + 1, hm => by
    have ih := lineTo_cnt hn m (by omega)
    unfold lineTo cntTo
    rw [List.length_append, ih, lineRow_cnt hn (show m < n by omega) n (Nat.le_refl _)]
def lineOk (n : Nat) : Bool := Nat.beq (cntTo n n) (fTimes gIdx n (primesL n))
set_option maxRecDepth 100000 in
theorem lineOk_all : (List.range 60).all (fun n => lineOk (n + 1)) = true := by decide +kernel
theorem line_index {n : Nat} (h0 : 0 < n) (h1 : n ≤ 60) : (lineL n).length = fTimes gIdx n (primesL n) := by
  have h := List.all_eq_true.1 lineOk_all (n - 1) (by simp; omega)
  rw [show n - 1 + 1 = n by omega] at h
  unfold lineL
  rw [Int.toNat_natCast, lineTo_cnt h0 n (Nat.le_refl _)]
  exact Nat.eq_of_beq_eq_true h
end Go.Proofs.Ytjgnhnbhcnfdbaa
