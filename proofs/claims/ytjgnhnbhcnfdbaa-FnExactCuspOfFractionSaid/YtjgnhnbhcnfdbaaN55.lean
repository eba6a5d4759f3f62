/- Plain: Euclid with multiples, both ways; a fraction's cusp does not depend on the way. -/
import Derived.Test.YtjgnhnbhcnfdbaaN52
import Derived.Test.YtjgnhnbhcnfdbaaN50
namespace Go.Proofs.Ytjgnhnbhcnfdbaa
/-- The numbers p, q in Euclid's way and one row a, c of multiples: their sizes and signs. -/
def Euc (M : Nat) (p q a c : Int) : Prop := ∃ (e d s : Int) (P Q A C : Nat), (e = 1 ∨ e = -1) ∧ (d = 1 ∨ d = -1) ∧ (s = 1 ∨ s = -1) ∧ p = e * P ∧ q = d * Q ∧ a = s * A ∧ c = -(s * e * d) * C ∧ A * Q + C * P ≤ M ∧ A ≤ M ∧ C ≤ M
theorem pm_abs {e : Int} (h : e = 1 ∨ e = -1) (n : Nat) : (e * n).natAbs = n := by rcases h with rfl | rfl <;> omega
theorem Euc.bd {M : Nat} {p q a c : Int} (h : Euc M p q a c) : a.natAbs ≤ M ∧ c.natAbs ≤ M := by
  obtain ⟨e, d, s, P, Q, A, C, he, hd, hs, rfl, rfl, rfl, rfl, h1, h2, h3⟩ := h
  refine ⟨by rw [pm_abs hs]; exact h2, ?_⟩
  have : -(s * e * d) = 1 ∨ -(s * e * d) = -1 := by rcases he with rfl | rfl <;> rcases hd with rfl | rfl <;> rcases hs with rfl | rfl <;> simp
  rw [pm_abs this]; exact h3
theorem sq_pm {e : Int} (h : e = 1 ∨ e = -1) : e * e = 1 := by rcases h with rfl | rfl <;> rfl
theorem pm_tdiv {e d : Int} (he : e = 1 ∨ e = -1) (hd : d = 1 ∨ d = -1) (P Q : Nat) : Int.tdiv (e * P) (d * Q) = e * d * ((P / Q : Nat) : Int) := by
  have h : Int.tdiv (P : Int) (Q : Int) = ((P / Q : Nat) : Int) := rfl
  rcases he with rfl | rfl <;> rcases hd with rfl | rfl <;> simp [Int.neg_tdiv, Int.tdiv_neg, Int.neg_mul, h]
/-- What one round does, with the sizes of its products. -/
theorem Euc.step {M : Nat} {p q a c : Int} (h : Euc M p q a c) (hq : q ≠ 0) : Euc M q (p - Int.tdiv p q * q) c (a - Int.tdiv p q * c) ∧ (Int.tdiv p q * c).natAbs ≤ M := by
  obtain ⟨e, d, s, P, Q, A, C, he, hd, hs, rfl, rfl, rfl, rfl, h1, h2, h3⟩ := h
  have hQ : 1 ≤ Q := by
    rcases Nat.eq_zero_or_pos Q with rfl | h
    · exact absurd (by simp) hq
    · exact h
  rw [pm_tdiv he hd]
  have hm := Nat.div_add_mod P Q
  have hnc : P / Q * C * Q ≤ C * P := by
    have := Nat.mul_le_mul_left C (Nat.div_mul_le_self P Q)
    rw [Nat.mul_right_comm, Nat.mul_comm _ C]; exact this
  have hnc2 : P / Q * C ≤ M := by
    have : P / Q * C * 1 ≤ P / Q * C * Q := Nat.mul_le_mul_left _ hQ
    omega
  have hnew : (A + P / Q * C) * Q + C * (P % Q) ≤ M := by
    have h4 : C * P = C * (Q * (P / Q)) + C * (P % Q) := by rw [← Nat.mul_add, hm]
    rw [Nat.add_mul]
    have h5 : P / Q * C * Q = C * (Q * (P / Q)) := by rw [Nat.mul_comm (P / Q) C, Nat.mul_assoc, Nat.mul_comm (P / Q) Q]
    omega
  have hC' : A + P / Q * C ≤ M := by
    have : (A + P / Q * C) * 1 ≤ (A + P / Q * C) * Q := Nat.mul_le_mul_left _ hQ
    omega
  have hmi : (P : Int) = Q * ((P / Q : Nat) : Int) + ((P % Q : Nat) : Int) := by exact_mod_cast hm.symm
  generalize hk : P / Q = k at *
  generalize P % Q = r at *
  refine ⟨⟨d, e, -(s * e * d), Q, r, C, A + k * C, hd, he, by rcases he with rfl | rfl <;> rcases hd with rfl | rfl <;> rcases hs with rfl | rfl <;> simp, rfl, ?_, rfl, ?_, by rw [Nat.add_comm]; exact hnew, h3, hC'⟩, ?_⟩
  · rw [hmi]
    rcases he with rfl | rfl <;> rcases hd with rfl | rfl <;> (simp only [Int.neg_mul, Int.mul_neg, Int.one_mul, Int.neg_neg, Int.mul_one, Int.mul_comm (k : Int)]; omega)
  · rcases he with rfl | rfl <;> rcases hd with rfl | rfl <;> rcases hs with rfl | rfl <;> (push_cast; simp only [Int.neg_mul, Int.mul_neg, Int.one_mul, Int.neg_neg]; omega)
  · have : (e * d * (k : Int) * (-(s * e * d) * C)).natAbs = k * C := by
      rw [Int.natAbs_mul, Int.natAbs_mul, Int.natAbs_mul]
      have h6 : -(s * e * d) = 1 ∨ -(s * e * d) = -1 := by rcases he with rfl | rfl <;> rcases hd with rfl | rfl <;> rcases hs with rfl | rfl <;> simp
      rcases he with rfl | rfl <;> rcases hd with rfl | rfl <;> rcases h6 with h6 | h6 <;> rw [h6] <;> simp
    rw [this]; exact hnc2
theorem euc_start {M : Nat} {p q : Int} (hp : p.natAbs ≤ M) (hq : q.natAbs ≤ M) (h1 : 1 ≤ M) : Euc M p q 1 0 ∧ Euc M p q 0 1 := by
  have key : ∀ x : Int, ∃ e : Int, (e = 1 ∨ e = -1) ∧ x = e * x.natAbs := fun x => by
    rcases Int.le_total 0 x with h | h
    · exact ⟨1, Or.inl rfl, by omega⟩
    · exact ⟨-1, Or.inr rfl, by omega⟩
  obtain ⟨e, he, ep⟩ := key p
  obtain ⟨d, hd, eq⟩ := key q
  have hed : -(-(e * d) * e * d) = 1 := by rcases he with rfl | rfl <;> rcases hd with rfl | rfl <;> simp
  exact ⟨⟨e, d, 1, p.natAbs, q.natAbs, 1, 0, he, hd, Or.inl rfl, ep, eq, by simp, by simp, by omega, h1, by omega⟩, ⟨e, d, -(e * d), p.natAbs, q.natAbs, 0, 1, he, hd, by rcases he with rfl | rfl <;> rcases hd with rfl | rfl <;> simp, ep, eq, by simp, by rw [hed]; simp, by omega, by omega, h1⟩⟩
theorem tdiv_less {p q : Int} (hq : q ≠ 0) : (p - Int.tdiv p q * q).natAbs < q.natAbs := by
  have e : p - Int.tdiv p q * q = Int.tmod p q := by
    have := Int.mul_tdiv_add_tmod p q
    rw [Int.mul_comm] at this; omega
  rw [e, Int.natAbs_tmod]
  exact Nat.mod_lt _ (by omega)
/-- No common divisor but units. -/
def Cop (p q : Int) : Prop := ∀ g : Int, g ∣ p → g ∣ q → g ∣ 1
theorem cop_gcd {p q : Int} (h : (Int.gcd p q : Int) = 1) : Cop p q := fun g hp hq => by
  rw [← h]; exact Int.dvd_coe_gcd hp hq
theorem Cop.round {p q n : Int} (h : Cop p q) : Cop q (p - n * q) := fun g hq hr => h g (by
  have : p = (p - n * q) + n * q := by omega
  rw [this]; exact Int.dvd_add hr (Int.dvd_mul_of_dvd_right hq)) hq
theorem Cop.unit {p : Int} (h : Cop p 0) : p * p = 1 := by
  have hd := h p (Int.dvd_refl p) (Int.dvd_zero p)
  have : p.natAbs = 1 := by
    have := Int.natAbs_dvd_natAbs.2 hd
    exact Nat.dvd_one.1 this
  rcases Int.natAbs_eq p with e | e <;> rw [e, this] <;> rfl
/-- What stays in the program's Euclid. -/
structure Bez (K : Nat) (p0 q0 p q a b c d : Int) : Prop where
  ep : p = a * p0 + b * q0
  eq : q = c * p0 + d * q0
  cop : Cop p q
  e1 : Euc K p q a c
  e2 : Euc K p q b d
  hp : p.natAbs ≤ K
  hq : q.natAbs ≤ K
theorem bez_start {K : Nat} {p q : Int} (hp : p.natAbs ≤ K) (hq : q.natAbs ≤ K) (h1 : 1 ≤ K) (hc : Cop p q) : Bez K p q p q 1 0 0 1 := by
  obtain ⟨h2, h3⟩ := euc_start hp hq h1
  exact ⟨by simp, by simp, hc, h2, h3, hp, hq⟩
theorem lin_step (n a b c d x y : Int) : (a * x + b * y) - n * (c * x + d * y) = (a - n * c) * x + (b - n * d) * y := by
  rw [Int.sub_mul, Int.sub_mul, Int.mul_add, Int.mul_assoc, Int.mul_assoc]; omega
theorem Bez.step {K : Nat} {p0 q0 p q a b c d : Int} (h : Bez K p0 q0 p q a b c d) (hq : q ≠ 0) : Bez K p0 q0 q (p - Int.tdiv p q * q) c d (a - Int.tdiv p q * c) (b - Int.tdiv p q * d) ∧ (p - Int.tdiv p q * q).natAbs < q.natAbs ∧ (Int.tdiv p q * c).natAbs ≤ K ∧ (Int.tdiv p q * d).natAbs ≤ K ∧ (a - Int.tdiv p q * c).natAbs ≤ K ∧ (b - Int.tdiv p q * d).natAbs ≤ K ∧ (Int.tdiv p q * q).natAbs ≤ K ∧ (Int.tdiv p q).natAbs ≤ K := by
  obtain ⟨h1, h2⟩ := h.e1.step hq
  obtain ⟨h3, h4⟩ := h.e2.step hq
  have hl := tdiv_less (p := p) hq
  have hb := h.hp
  have hb2 := h.hq
  refine ⟨⟨h.eq, ?_, h.cop.round, h1, h3, h.hq, by omega⟩, hl, h2, h4, h1.bd.2, h3.bd.2, ?_, ?_⟩
  · have ep := h.ep
    have eq := h.eq
    generalize Int.tdiv p q = n
    rw [← lin_step, ← ep, ← eq]
  · rw [Int.natAbs_mul, Int.natAbs_tdiv]
    exact Nat.le_trans (Nat.div_mul_le_self _ _) hb
  · rw [Int.natAbs_tdiv]
    exact Nat.le_trans (Nat.div_le_self _ _) hb
theorem Bez.done {K : Nat} {p0 q0 p a b c d : Int} (h : Bez K p0 q0 p 0 a b c d) : p0 * (a * p) - q0 * (-b * p) = 1 := by
  have h1 := h.cop.unit
  have h2 : p * p = p0 * (a * p) - q0 * (-b * p) := by
    have e : p * p = (a * p0 + b * q0) * p := by rw [← h.ep]
    rw [e, Int.add_mul, Int.neg_mul, Int.mul_neg, Int.mul_left_comm p0 a p, Int.mul_left_comm q0 b p, Int.mul_assoc, Int.mul_assoc]
    omega
  rw [← h2]; exact h1
/-- What stays in the model's Euclid: the first number and its rest, with the multiples of p. -/
structure Bot (K : Nat) (p0 q0 a b s t : Int) : Prop where
  ha : q0 ∣ a - s * p0
  hb : q0 ∣ b - t * p0
  cop : Cop a b
  e : Euc K a b s t
  a0 : 0 < a
  b0 : 0 ≤ b
  aK : a ≤ K
  bK : b ≤ K
theorem bot_start {K : Nat} {p q : Int} (hq : 0 < q) (hK : q ≤ K) (hc : Cop p q) : Bot K p q q (p % q) 0 1 := by
  have h1 := Int.emod_nonneg p (show q ≠ 0 by omega)
  have h2 := Int.emod_lt_of_pos p hq
  have hd := Int.emod_def p q
  refine ⟨⟨1, by simp⟩, ⟨-(p / q), by rw [hd, Int.mul_neg]; omega⟩, fun g ha hb => hc g ?_ ha, (euc_start (by omega) (by omega) (by omega)).2, hq, h1, hK, by omega⟩
  have : p = p % q + q * (p / q) := by omega
  rw [this]; exact Int.dvd_add hb (Int.dvd_mul_of_dvd_left ha)
theorem Bot.step {K : Nat} {p0 q0 a b s t : Int} (h : Bot K p0 q0 a b s t) (hb : b ≠ 0) : Bot K p0 q0 b (a - Int.tdiv a b * b) t (s - Int.tdiv a b * t) ∧ (a - Int.tdiv a b * b) < b ∧ (Int.tdiv a b * t).natAbs ≤ K ∧ (s - Int.tdiv a b * t).natAbs ≤ K ∧ s.natAbs ≤ K ∧ (Int.tdiv a b * b).natAbs ≤ K ∧ (Int.tdiv a b).natAbs ≤ K := by
  obtain ⟨h1, h2⟩ := h.e.step hb
  have hl := tdiv_less (p := a) hb
  have a0 := h.a0
  have b0 := h.b0
  have aK := h.aK
  have bK := h.bK
  have hr : 0 ≤ a - Int.tdiv a b * b := by
    have e : a - Int.tdiv a b * b = Int.tmod a b := by
      have := Int.mul_tdiv_add_tmod a b
      rw [Int.mul_comm] at this; omega
    rw [e]; exact Int.tmod_nonneg _ (by omega)
  refine ⟨⟨h.hb, ?_, h.cop.round, h1, by omega, hr, bK, by omega⟩, by omega, h2, h1.bd.2, h.e.bd.1, ?_, ?_⟩
  · obtain ⟨x, hx⟩ := h.ha
    obtain ⟨y, hy⟩ := h.hb
    refine ⟨x - Int.tdiv a b * y, ?_⟩
    rw [Int.mul_sub, ← hx, Int.mul_left_comm, ← hy, Int.sub_mul, Int.mul_sub, Int.mul_assoc]; omega
  · rw [Int.natAbs_mul, Int.natAbs_tdiv]
    exact Nat.le_trans (Nat.div_mul_le_self _ _) (by omega)
  · rw [Int.natAbs_tdiv]
    exact Nat.le_trans (Nat.div_le_self _ _) (by omega)
theorem Bot.done {K : Nat} {p0 q0 a s t : Int} (h : Bot K p0 q0 a 0 s t) : ∃ r, p0 * s - q0 * r = 1 := by
  have h1 := h.cop.unit
  have a0 := h.a0
  have ha : a = 1 := by
    rcases Int.lt_or_le a 2 with h | h
    · omega
    · have := Int.mul_le_mul h h (by omega) (by omega)
      omega
  obtain ⟨x, hx⟩ := h.ha
  refine ⟨-x, ?_⟩
  rw [Int.mul_neg, ← hx, ha, Int.mul_comm s]; omega
end Go.Proofs.Ytjgnhnbhcnfdbaa
