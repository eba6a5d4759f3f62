/- Plain: multiples by units have the same normal pair; cosets and matrices. -/
import Derived.Test.YtjgnhnbhcnfdbaaN33
namespace Go.Proofs.Ytjgnhnbhcnfdbaa
theorem unit_inv {N : Nat} (n0 : 0 < N) (n1 : N ≤ 60) {u : Int} (hu : Int.gcd u N = 1) : ∃ v : Int, Int.gcd v N = 1 ∧ v * u % N = 1 % N := by
  have e : (((u % N).toNat : Nat) : Int) = u % N := Int.toNat_of_nonneg (Int.emod_nonneg u (by omega))
  have hg : Nat.gcd N (u % N).toNat = 1 := by
    refine Nat.dvd_one.1 ?_
    rw [← hu]
    have h1 : ((Nat.gcd N (u % N).toNat : Nat) : Int) ∣ (N : Int) := Int.natCast_dvd_natCast.2 (Nat.gcd_dvd_left _ _)
    have h2 : ((Nat.gcd N (u % N).toNat : Nat) : Int) ∣ u % N := by rw [← e]; exact Int.natCast_dvd_natCast.2 (Nat.gcd_dvd_right _ _)
    exact Int.dvd_gcd (dvd_mod h1 h2) h1
  obtain ⟨h1, -, -⟩ := inv_of n0 n1 hg
  generalize firstN (invA N ((u % N).toNat % N)) N 0 = A at h1
  have hv : (A : Int) * u % N = 1 % N := by
    have h2 : ((A : Int) * ((u % N).toNat : Nat)) % N = 1 % N := by exact_mod_cast h1
    rw [e] at h2
    rw [Int.mul_emod, Int.emod_emod_of_dvd _ (Int.dvd_refl _), ← Int.mul_emod] at h2
    exact h2
  refine ⟨A, ?_, hv⟩
  refine Nat.dvd_one.1 ?_
  have h3 := Int.gcd_dvd_left (A : Int) N
  have h4 := Int.gcd_dvd_right (A : Int) N
  generalize Int.gcd (A : Int) N = g at *
  have h5 : (g : Int) ∣ 1 % (N : Int) := by
    rw [← hv, Int.emod_def]
    exact Int.dvd_sub (Int.dvd_trans h3 (Int.dvd_mul_right _ _)) (Int.dvd_trans h4 (Int.dvd_mul_right _ _))
  exact Int.natCast_dvd_natCast.1 (dvd_mod h4 h5)
theorem unit_mod {n v x : Int} : (v % n) * x % n = v * x % n := by
  rw [Int.mul_emod, Int.emod_emod_of_dvd _ (Int.dvd_refl n), ← Int.mul_emod]
theorem gcd_mod {n v : Int} (h : Int.gcd v n = 1) : Int.gcd (v % n) n = 1 := by
  refine Nat.dvd_one.1 ?_
  rw [← h]
  have h2 := Int.gcd_dvd_right (v % n) n
  exact Int.dvd_gcd (dvd_mod h2 (Int.gcd_dvd_left (v % n) n)) h2
structure Least (n c d : Int) (P : P2) : Prop where
  form : ∃ v : Int, Int.gcd v n = 1 ∧ P = ⟨v * c % n, v * d % n⟩
  min : ∀ v : Int, Int.gcd v n = 1 → NotLess (v * c % n) (v * d % n) P
theorem normal_least {n c d : Int} (hn : 0 < n) (hc : 0 ≤ c ∧ c < n) (hd : 0 ≤ d ∧ d < n) : Least n c d (normal n c d) := by
  constructor
  · rcases nrm_form (n := n) (c := c) (d := d) (n - 1).toNat with e | ⟨j, _, hg, e⟩
    · refine ⟨1, by simp, ?_⟩
      unfold normal
      rw [e, Int.one_mul, Int.one_mul, Int.emod_eq_of_lt hc.1 hc.2, Int.emod_eq_of_lt hd.1 hd.2]
    · exact ⟨(j : Int) + 1, by exact_mod_cast hg, e⟩
  · intro v hv
    by_cases hn1 : n = 1
    · subst hn1
      unfold NotLess
      rw [lexB_no]
      obtain ⟨⟨x0, x1⟩, y0, y1⟩ := normal_bd hn hc hd
      have e1 : v * c % 1 = 0 := Int.emod_one _
      have e2 : v * d % 1 = 0 := Int.emod_one _
      omega
    · have h0 := Int.emod_nonneg v (show n ≠ 0 by omega)
      have h1 := Int.emod_lt_of_pos v hn
      have hg := gcd_mod hv
      have hne : v % n ≠ 0 := fun e => by
        rw [e, Int.gcd_zero_left] at hg
        omega
      have := nrm_min (n := n) (c := c) (d := d) (n - 1).toNat (v % n - 1).toNat (by omega) (by
        rw [show (((v % n - 1).toNat : Nat) : Int) + 1 = v % n by omega]
        exact_mod_cast hg)
      rw [show (((v % n - 1).toNat : Nat) : Int) + 1 = v % n by omega, unit_mod, unit_mod] at this
      exact this
theorem least_uniq {a b x y : Int} (h1 : NotLess a b ⟨x, y⟩) (h2 : NotLess x y ⟨a, b⟩) : (⟨a, b⟩ : P2) = ⟨x, y⟩ := by
  unfold NotLess at *
  rw [lexB_no] at *
  simp only at h1 h2
  have e1 : a = x := by omega
  have e2 : b = y := by omega
  rw [e1, e2]
theorem normal_unit {N : Nat} {c d u : Int} (n0 : 0 < N) (n1 : N ≤ 60) (hc : 0 ≤ c ∧ c < N) (hd : 0 ≤ d ∧ d < N) (hu : Int.gcd u N = 1) : normal N (u * c % N) (u * d % N) = normal N c d := by
  have hn : (0 : Int) < N := by omega
  obtain ⟨⟨v, hv, ev⟩, hmin⟩ := normal_least hn hc hd
  obtain ⟨⟨w, hw, ew⟩, hmin'⟩ := normal_least (n := (N : Int)) (c := u * c % N) (d := u * d % N) hn ⟨Int.emod_nonneg _ (by omega), Int.emod_lt_of_pos _ hn⟩ ⟨Int.emod_nonneg _ (by omega), Int.emod_lt_of_pos _ hn⟩
  obtain ⟨z, hz, ez⟩ := unit_inv n0 n1 hu
  have hA := hmin (w * u % N) (gcd_mul_mod hu hw)
  rw [← mul_mod_mod, ← mul_mod_mod, ev] at hA
  have hB := hmin' (v * z % N) (gcd_mul_mod hz hv)
  have key : ∀ x : Int, (v * z % N) * (u * x % N) % N = v * x % N := fun x => by
    rw [mul_mod_mod, ← mul_mod_mod v z u, ez]
    rw [Int.mul_emod v (1 % (N : Int)), Int.emod_emod_of_dvd _ (Int.dvd_refl _), ← Int.mul_emod, Int.mul_one, unit_mod]
  rw [key, key, ew] at hB
  rw [ev, ew]
  exact least_uniq hA hB
theorem coset_unit {N : Nat} {l : List P2} {c d u : Int} (n0 : 0 < N) (n1 : N ≤ 60) (hu : Int.gcd u N = 1) : cosetI N l (u * c) (u * d) = cosetI N l c d := by
  have hn : (0 : Int) < N := by omega
  have e : ∀ x : Int, u * x % N = u * (x % N) % N := fun x => by rw [Int.mul_emod u (x % N), Int.emod_emod_of_dvd _ (Int.dvd_refl _), ← Int.mul_emod]
  unfold cosetI
  rw [e c, e d, normal_unit n0 n1 ⟨Int.emod_nonneg _ (by omega), Int.emod_lt_of_pos _ hn⟩ ⟨Int.emod_nonneg _ (by omega), Int.emod_lt_of_pos _ hn⟩ hu]
theorem coset_mod {n : Int} {l : List P2} {c d c' d' : Int} (h1 : n ∣ c - c') (h2 : n ∣ d - d') : cosetI n l c d = cosetI n l c' d' := by
  unfold cosetI
  rw [Int.emod_eq_emod_iff_emod_sub_eq_zero.2 (Int.emod_eq_zero_of_dvd h1), Int.emod_eq_emod_iff_emod_sub_eq_zero.2 (Int.emod_eq_zero_of_dvd h2)]
/-- A matrix leads the normal pair's coset just as the pair's. -/
theorem coset_lead {N : Nat} {l : List P2} {c d : Int} (n0 : 0 < N) (n1 : N ≤ 60) (p q r s : Int) :
    cosetI N l ((normal N (c % N) (d % N)).x * p + (normal N (c % N) (d % N)).y * r) ((normal N (c % N) (d % N)).x * q + (normal N (c % N) (d % N)).y * s) = cosetI N l (c * p + d * r) (c * q + d * s) := by
  have hn : (0 : Int) < N := by omega
  obtain ⟨⟨v, hv, ev⟩, -⟩ := normal_least (n := (N : Int)) (c := c % N) (d := d % N) hn ⟨Int.emod_nonneg _ (by omega), Int.emod_lt_of_pos _ hn⟩ ⟨Int.emod_nonneg _ (by omega), Int.emod_lt_of_pos _ hn⟩
  rw [ev]
  simp only
  rw [← coset_unit (c := c * p + d * r) (d := c * q + d * s) n0 n1 hv]
  have key : ∀ x y a b : Int, (N : Int) ∣ (v * (x % N) % N) * a + (v * (y % N) % N) * b - v * (x * a + y * b) := fun x y a b => by
    have e1 := Int.emod_def (v * (x % N)) N
    have e2 := Int.emod_def (v * (y % N)) N
    have e3 := Int.emod_def x N
    have e4 := Int.emod_def y N
    generalize v * (x % N) / N = k1 at *
    generalize v * (y % N) / N = k2 at *
    generalize x / (N : Int) = k3 at *
    generalize y / (N : Int) = k4 at *
    rw [e1, e2, e3, e4]
    exact ⟨-(v * k3 * a) - k1 * a - v * k4 * b - k2 * b, by grind⟩
  exact coset_mod (key _ _ _ _) (key _ _ _ _)
theorem findI_get {p : P2} {l : List P2} (h : p ∈ l) : ∃ k : Nat, ∃ hk : k < l.length, findI p l 0 = k ∧ l[k] = p := by
  have key : ∀ (l : List P2) (s : Int), p ∈ l → ∃ k : Nat, ∃ hk : k < l.length, findI p l s = s + k ∧ l[k] = p := by
    intro l
    induction l with
    | nil => intro s h; simp at h
    | cons q l ih =>
      intro s h
      by_cases e : q = p
      · refine ⟨0, by simp, ?_, by simpa using e⟩
        unfold findI; rw [if_pos e]; simp
      · obtain ⟨k, hk, h1, h2⟩ := ih (s + 1) (by simp at h; rcases h with h | h; exact absurd h.symm e; exact h)
        refine ⟨k + 1, by simp; omega, ?_, by simpa using h2⟩
        unfold findI; rw [if_neg e, h1]; push_cast; omega
  obtain ⟨k, hk, h1, h2⟩ := key l 0 h
  exact ⟨k, hk, by rw [h1]; omega, h2⟩
/-- The place of a pair in the line. -/
theorem coset_get {N : Nat} {c d : Int} (n0 : 0 < N) (h : isPairB N (c % N) (d % N) = true) : ∃ k : Nat, ∃ hk : k < (lineL N).length, cosetI N (lineL N) c d = k ∧ (lineL N)[k] = normal N (c % N) (d % N) := by
  have hn : (0 : Int) < N := by omega
  exact findI_get (normal_in hn ⟨Int.emod_nonneg c (by omega), Int.emod_lt_of_pos c hn⟩ ⟨Int.emod_nonneg d (by omega), Int.emod_lt_of_pos d hn⟩ h)
theorem normal_of_line {N : Nat} {k : Nat} (n0 : 0 < N) (hk : k < (lineL N).length) : normal N ((lineL N)[k].x % N) ((lineL N)[k].y % N) = (lineL N)[k] ∧ isPairB N ((lineL N)[k].x % N) ((lineL N)[k].y % N) = true := by
  have h := (lineL_mem (n := (N : Int)) (by omega)).1 (List.getElem_mem hk)
  rw [Int.emod_eq_of_lt h.c0 h.c1, Int.emod_eq_of_lt h.d0 h.d1]
  exact ⟨h.self, h.pair⟩
theorem findI_self {l : List P2} {k : Nat} (hk : k < l.length) (hnd : l.Nodup) : findI l[k] l 0 = k := by
  obtain ⟨j, hj, h1, h2⟩ := findI_get (List.getElem_mem hk)
  rw [h1]
  have := (List.getElem_inj hnd).1 h2
  rw [this]
theorem lineRow_nodup (n c : Int) (m : Nat) : (lineRow n c m).Nodup := by
  induction m with
  | zero => simp [lineRow]
  | succ m ih =>
    unfold lineRow
    split
    · rw [List.nodup_append]
      refine ⟨ih, by simp, ?_⟩
      intro a ha b hb e
      have := lineRow_mem.1 ha
      simp at hb
      subst e; subst hb
      simp at this
    · simpa using ih
theorem lineTo_nodup (n : Int) (N m : Nat) : (lineTo n N m).Nodup := by
  induction m with
  | zero => simp [lineTo]
  | succ m ih =>
    unfold lineTo
    rw [List.nodup_append]
    refine ⟨ih, lineRow_nodup _ _ _, ?_⟩
    intro a ha b hb e
    have h1 := lineTo_mem.1 ha
    have h2 := lineRow_mem.1 hb
    subst e
    omega
theorem lineL_nodup (n : Int) : (lineL n).Nodup := lineTo_nodup _ _ _
theorem coset_self {N : Nat} {k : Nat} (n0 : 0 < N) (hk : k < (lineL N).length) : cosetI N (lineL N) (lineL N)[k].x (lineL N)[k].y = k := by
  unfold cosetI
  rw [(normal_of_line n0 hk).1]
  exact findI_self hk (lineL_nodup _)
end Go.Proofs.Ytjgnhnbhcnfdbaa
