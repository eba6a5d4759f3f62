/- Plain: normal pairs are normal; pairs stay pairs. -/
import Derived.Test.YtjgnhnbhcnfdbaaN31
namespace Go.Proofs.Ytjgnhnbhcnfdbaa
theorem pairB_iff {n c d : Int} : isPairB n c d = true ↔ ∀ g : Nat, (g : Int) ∣ c → (g : Int) ∣ d → (g : Int) ∣ n → g = 1 := by
  unfold isPairB
  rw [beq_iff_eq]
  constructor
  · intro h g h1 h2 h3
    have h4 : g ∣ Int.gcd (Int.gcd c d : Int) n := Int.dvd_gcd (Int.natCast_dvd_natCast.2 (Int.dvd_gcd h1 h2)) h3
    have h5 : Int.gcd (Int.gcd c d : Int) n = 1 := by exact_mod_cast h
    rw [h5] at h4
    exact Nat.dvd_one.1 h4
  · intro h
    have h1 := Int.gcd_dvd_left (Int.gcd c d : Int) n
    have h2 := Int.gcd_dvd_right (Int.gcd c d : Int) n
    have := h (Int.gcd (Int.gcd c d : Int) n) (Int.dvd_trans h1 (Int.gcd_dvd_left c d)) (Int.dvd_trans h1 (Int.gcd_dvd_right c d)) h2
    rw [this]; rfl
theorem dvd_mod {g x n : Int} (hn : g ∣ n) (h : g ∣ x % n) : g ∣ x := by
  have e := Int.mul_ediv_add_emod x n
  rw [← e]
  exact Int.dvd_add (Int.dvd_trans hn (Int.dvd_mul_right _ _)) h
theorem pair_mod {n c d c' d' : Int} (h : isPairB n c d = true) (hh : ∀ g : Nat, (g : Int) ∣ c' → (g : Int) ∣ d' → (g : Int) ∣ n → (g : Int) ∣ c ∧ (g : Int) ∣ d) : isPairB n (c' % n) (d' % n) = true := by
  rw [pairB_iff] at h ⊢
  intro g h1 h2 h3
  obtain ⟨h4, h5⟩ := hh g (dvd_mod h3 h1) (dvd_mod h3 h2) h3
  exact h g h4 h5 h3
theorem pair_S {n c d : Int} (h : isPairB n c d = true) : isPairB n (d % n) (-c % n) = true :=
  pair_mod h fun _ h1 h2 _ => ⟨(Int.dvd_neg).1 h2, h1⟩
theorem pair_U {n c d : Int} (h : isPairB n c d = true) : isPairB n ((c + d) % n) (-c % n) = true :=
  pair_mod h fun _ h1 h2 _ => by
    have h3 := (Int.dvd_neg).1 h2
    exact ⟨h3, (Int.dvd_add_right h3).1 h1⟩
theorem pair_T {n c d : Int} (h : isPairB n c d = true) : isPairB n (c % n) ((c + d) % n) = true :=
  pair_mod h fun _ h1 h2 _ => ⟨h1, (Int.dvd_add_right h1).1 h2⟩
theorem dvd_of_gcd {g : Nat} {u c : Int} (h : (g : Int) ∣ u * c) (hg : Int.gcd (g : Int) u = 1) : (g : Int) ∣ c := by
  have h1 := Int.natAbs_dvd_natAbs.2 h
  rw [Int.natAbs_natCast, Int.natAbs_mul] at h1
  have hc : Nat.Coprime g u.natAbs := hg
  exact Int.natAbs_dvd_natAbs.1 (by rw [Int.natAbs_natCast]; exact hc.dvd_of_dvd_mul_left h1)
theorem pair_unit {n c d u : Int} (hu : Int.gcd u n = 1) (h : isPairB n c d = true) : isPairB n (u * c % n) (u * d % n) = true :=
  pair_mod h fun g h1 h2 h3 => by
    have hg : Int.gcd (g : Int) u = 1 := by
      refine Nat.dvd_one.1 ?_
      rw [← hu]
      exact Int.dvd_gcd (Int.gcd_dvd_right _ _) (Int.dvd_trans (Int.gcd_dvd_left _ _) h3)
    exact ⟨dvd_of_gcd h1 hg, dvd_of_gcd h2 hg⟩
/-- Rows of matrices are pairs. -/
theorem pair_det {n a b c d : Int} (h : a * d - b * c = 1) : isPairB n (c % n) (d % n) = true := by
  rw [pairB_iff]
  intro g h1 h2 h3
  have hc := dvd_mod h3 h1
  have hd := dvd_mod h3 h2
  have : (g : Int) ∣ 1 := by
    rw [← h]
    exact Int.dvd_sub (Int.dvd_trans hd (Int.dvd_mul_left _ _)) (Int.dvd_trans hc (Int.dvd_mul_left _ _))
  exact Nat.dvd_one.1 (by exact_mod_cast this)
theorem lexB_iff {a b x y : Int} : lexB a b x y = true ↔ a < x ∨ (a = x ∧ b < y) := by simp [lexB]
theorem lexB_no {a b x y : Int} : lexB a b x y = false ↔ ¬ (a < x ∨ (a = x ∧ b < y)) := by rw [← lexB_iff]; simp
def NotLess (c d : Int) (p : P2) : Prop := lexB c d p.x p.y = false
theorem nrm_self {n c d : Int} (k : Nat) : NotLess c d (nrm n c d k) := by
  induction k with
  | zero => unfold NotLess; rw [lexB_no]; simp only [nrm]; omega
  | succ k ih =>
    unfold nrm
    split
    · rename_i h
      simp only [Bool.and_eq_true, lexB_iff] at h
      unfold NotLess at *
      rw [lexB_no] at *
      simp only
      have := h.2
      omega
    · exact ih
theorem nrm_min {n c d : Int} (k j : Nat) (hj : j < k) (hg : (Int.gcd ((j : Int) + 1) n : Int) = 1) : NotLess (((j : Int) + 1) * c % n) (((j : Int) + 1) * d % n) (nrm n c d k) := by
  induction k with
  | zero => omega
  | succ k ih =>
    have hn : nrm n c d (k + 1) = nrm n c d (k + 1) := rfl
    by_cases hjk : j = k
    · subst hjk
      unfold nrm
      split
      · unfold NotLess; rw [lexB_no]; simp only; omega
      · rename_i h
        unfold NotLess
        simp only [hg, beq_self_eq_true, Bool.true_and] at h
        simpa using h
    · have ih := ih (by omega)
      unfold nrm
      split
      · rename_i h
        simp only [Bool.and_eq_true, lexB_iff] at h
        unfold NotLess at *
        rw [lexB_no] at *
        simp only
        have := h.2
        omega
      · exact ih
theorem nrm_form {n c d : Int} (k : Nat) : nrm n c d k = ⟨c, d⟩ ∨ ∃ j : Nat, j < k ∧ (Int.gcd ((j : Int) + 1) n : Int) = 1 ∧ nrm n c d k = ⟨((j : Int) + 1) * c % n, ((j : Int) + 1) * d % n⟩ := by
  induction k with
  | zero => exact .inl rfl
  | succ k ih =>
    by_cases h : ((Int.gcd ((k : Int) + 1) n : Int) == 1 && lexB ((k + 1) * c % n) ((k + 1) * d % n) (nrm n c d k).x (nrm n c d k).y) = true
    · right
      refine ⟨k, by omega, ?_, by unfold nrm; rw [if_pos h]⟩
      simp only [Bool.and_eq_true, beq_iff_eq] at h
      exact h.1
    · have e : nrm n c d (k + 1) = nrm n c d k := by
        show (if _ then _ else _) = _
        rw [if_neg h]
      rw [e]
      rcases ih with h1 | ⟨j, h1, h2, h3⟩
      · exact .inl h1
      · exact .inr ⟨j, by omega, h2, h3⟩
theorem normal_pair {n c d : Int} (h : isPairB n c d = true) : isPairB n (normal n c d).x (normal n c d).y = true := by
  rcases nrm_form (n := n) (c := c) (d := d) (n - 1).toNat with e | ⟨j, _, hg, e⟩
  · unfold normal; rw [e]; exact h
  · unfold normal; rw [e]; exact pair_unit (by exact_mod_cast hg) h
theorem mul_mod_mod (v u c n : Int) : v * (u * c % n) % n = (v * u % n) * c % n := by
  rw [Int.mul_emod, Int.emod_emod_of_dvd _ (Int.dvd_refl n), ← Int.mul_emod, ← Int.mul_assoc]
  rw [Int.mul_emod (v * u % n) c, Int.emod_emod_of_dvd _ (Int.dvd_refl n), ← Int.mul_emod]
theorem gcd_mul_mod {u v n : Int} (hu : Int.gcd u n = 1) (hv : Int.gcd v n = 1) : Int.gcd (v * u % n) n = 1 := by
  refine Nat.dvd_one.1 ?_
  have h2 := Int.gcd_dvd_right (v * u % n) n
  have h1 := dvd_mod h2 (Int.gcd_dvd_left (v * u % n) n)
  generalize Int.gcd (v * u % n) n = g at *
  have hg : Int.gcd (g : Int) v = 1 := by
    refine Nat.dvd_one.1 ?_
    rw [← hv]
    exact Int.dvd_gcd (Int.gcd_dvd_right _ _) (Int.dvd_trans (Int.gcd_dvd_left _ _) h2)
  have h3 := dvd_of_gcd h1 hg
  rw [← hu]
  exact Int.dvd_gcd h3 h2
theorem normal_idem {n c d : Int} (hn : 0 < n) (hc : 0 ≤ c ∧ c < n) (hd : 0 ≤ d ∧ d < n) : normal n (normal n c d).x (normal n c d).y = normal n c d := by
  obtain ⟨⟨x0, x1⟩, y0, y1⟩ := normal_bd hn hc hd
  by_cases hn1 : n = 1
  · obtain ⟨⟨u0, u1⟩, v0, v1⟩ := normal_bd hn ⟨x0, x1⟩ ⟨y0, y1⟩
    generalize normal n (normal n c d).x (normal n c d).y = p at *
    generalize normal n c d = q at *
    obtain ⟨a, b⟩ := p
    obtain ⟨a', b'⟩ := q
    simp only at *
    rw [show a = a' by omega, show b = b' by omega]
  · have hself := nrm_self (n := n) (c := (normal n c d).x) (d := (normal n c d).y) (n - 1).toNat
    rcases nrm_form (n := n) (c := (normal n c d).x) (d := (normal n c d).y) (n - 1).toNat with e | ⟨j, hj, hg, e⟩
    · exact e
    · have key : ∃ k : Nat, k < (n - 1).toNat ∧ (Int.gcd ((k : Int) + 1) n : Int) = 1 ∧ ((j : Int) + 1) * (normal n c d).x % n = ((k : Int) + 1) * c % n ∧ ((j : Int) + 1) * (normal n c d).y % n = ((k : Int) + 1) * d % n := by
        rcases nrm_form (n := n) (c := c) (d := d) (n - 1).toNat with e2 | ⟨i, hi, hg2, e2⟩
        · exact ⟨j, hj, hg, by unfold normal; rw [e2], by unfold normal; rw [e2]⟩
        · have hgg := gcd_mul_mod (u := (i : Int) + 1) (v := (j : Int) + 1) (n := n) (by exact_mod_cast hg2) (by exact_mod_cast hg)
          have w0 := Int.emod_nonneg (((j : Int) + 1) * ((i : Int) + 1)) (show n ≠ 0 by omega)
          have w1 := Int.emod_lt_of_pos (((j : Int) + 1) * ((i : Int) + 1)) hn
          have e3 := mul_mod_mod ((j : Int) + 1) ((i : Int) + 1) c n
          have e4 := mul_mod_mod ((j : Int) + 1) ((i : Int) + 1) d n
          generalize ((j : Int) + 1) * ((i : Int) + 1) % n = W at *
          have hW : W ≠ 0 := fun h0 => by rw [h0, Int.gcd_zero_left] at hgg; omega
          refine ⟨(W - 1).toNat, by omega, ?_, ?_, ?_⟩
          · rw [show (((W - 1).toNat : Nat) : Int) + 1 = W by omega, hgg]; rfl
          · rw [show (((W - 1).toNat : Nat) : Int) + 1 = W by omega]; unfold normal; rw [e2]; exact e3
          · rw [show (((W - 1).toNat : Nat) : Int) + 1 = W by omega]; unfold normal; rw [e2]; exact e4
      obtain ⟨k, hk, hgk, e5, e6⟩ := key
      have hmin := nrm_min (n := n) (c := c) (d := d) (n - 1).toNat k hk hgk
      have e' : normal n (normal n c d).x (normal n c d).y = ⟨((k : Int) + 1) * c % n, ((k : Int) + 1) * d % n⟩ := by
        show nrm n _ _ _ = _
        rw [e, e5, e6]
      rw [e']
      have hself' : NotLess (normal n c d).x (normal n c d).y ⟨((k : Int) + 1) * c % n, ((k : Int) + 1) * d % n⟩ := by
        have : nrm n (normal n c d).x (normal n c d).y (n - 1).toNat = _ := e'
        rw [this] at hself; exact hself
      have hmin' : NotLess (((k : Int) + 1) * c % n) (((k : Int) + 1) * d % n) (normal n c d) := hmin
      generalize ((k : Int) + 1) * c % n = A at *
      generalize ((k : Int) + 1) * d % n = B at *
      generalize normal n c d = q at *
      obtain ⟨x, y⟩ := q
      unfold NotLess at hself' hmin'
      rw [lexB_no] at hself' hmin'
      simp only at hself' hmin'
      rw [show A = x by omega, show B = y by omega]
/-- The normal pair of a pair is in the line. -/
theorem normal_in {n c d : Int} (hn : 0 < n) (hc : 0 ≤ c ∧ c < n) (hd : 0 ≤ d ∧ d < n) (h : isPairB n c d = true) : normal n c d ∈ lineL n := by
  rw [lineL_mem hn]
  obtain ⟨⟨x0, x1⟩, y0, y1⟩ := normal_bd hn hc hd
  exact ⟨x0, x1, y0, y1, normal_pair h, normal_idem hn hc hd⟩
theorem coset_in {n c d : Int} (hn : 0 < n) (h : isPairB n (c % n) (d % n) = true) : 0 ≤ cosetI n (lineL n) c d ∧ cosetI n (lineL n) c d < (lineL n).length := by
  have := findI_bd _ _ 0 (normal_in hn ⟨Int.emod_nonneg c (by omega), Int.emod_lt_of_pos c hn⟩ ⟨Int.emod_nonneg d (by omega), Int.emod_lt_of_pos d hn⟩ h)
  unfold cosetI; omega
end Go.Proofs.Ytjgnhnbhcnfdbaa
