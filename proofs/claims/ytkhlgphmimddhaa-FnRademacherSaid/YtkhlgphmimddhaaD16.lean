/- Plain: first numbers of inverses, second numbers of conjugate matrices, gaps of products by signs. -/
import Derived.Test.YtkhlgphmimddhaaD10
import Derived.Test.YtkhlgphmimddhaaN53
import Derived.Test.YtkhlgphmimddhaaC37
import Derived.Test.YtkhlgphmimddhaaC39
namespace Go.Proofs.Ytkhlgphmimddhaa
theorem sg_sgP (n : Int) : sg n = sgP n := rfl
theorem firstV_phi (a b c d : Int) : firstV a b c d = phi a b c d := rfl
def mtOf (a b c d : Int) : Mt := ⟨a, b, c, d⟩
theorem mt_one : Mt.phi ⟨1, 0, 0, 1⟩ = 0 := by unfold Mt.phi phi; rfl
def Mt.inv (n : Mt) : Mt := ⟨n.d, -n.b, -n.c, n.a⟩
theorem Mt.det_inv {n : Mt} (h : n.det = 1) : n.inv.det = 1 := by unfold Mt.det Mt.inv at *; simp only; rw [← h]; grind
theorem Mt.mul_inv {n : Mt} (h : n.det = 1) : n.mul n.inv = ⟨1, 0, 0, 1⟩ := by
  unfold Mt.det at h
  unfold Mt.mul Mt.inv
  simp only [Mt.mk.injEq]
  refine ⟨?_, ?_, ?_, ?_⟩ <;> grind
theorem Mt.phi_inv {n : Mt} (h : n.det = 1) : n.inv.phi = -n.phi := by
  have e := phi_mul h (Mt.det_inv h)
  rw [Mt.mul_inv h, mt_one] at e
  have z : sgP (0 : Int) = 0 := rfl
  simp only [z] at e
  simp at e
  omega
theorem sg_pos {n : Int} (h : 0 < n) : sgP n = 1 := by rcases sg_cases n with h2 | h2 | h2 <;> omega
theorem sg_negv {n : Int} (h : n < 0) : sgP n = -1 := by rcases sg_cases n with h2 | h2 | h2 <;> omega
theorem sg_prod_pos {x y : Int} (h : 0 < x * y) : sgP x * sgP y = 1 := by rw [← sg_mul]; exact sg_pos h
theorem sg_eq {x y : Int} (h : sgP x * sgP y = 1) : sgP y = sgP x := by
  rcases sg_cases x with ⟨_, h1⟩ | ⟨_, h1⟩ | ⟨_, h1⟩ <;> rcases sg_cases y with ⟨_, h2⟩ | ⟨_, h2⟩ | ⟨_, h2⟩ <;> rw [h1, h2] at h ⊢ <;> omega
theorem sg_eq3 {t u v : Int} (h : sgP t * (sgP u * sgP v) = 1) : sgP t = sgP v * sgP u := by
  rcases sg_cases t with ⟨_, h1⟩ | ⟨_, h1⟩ | ⟨_, h1⟩ <;> rcases sg_cases u with ⟨_, h2⟩ | ⟨_, h2⟩ | ⟨_, h2⟩ <;> rcases sg_cases v with ⟨_, h3⟩ | ⟨_, h3⟩ | ⟨_, h3⟩ <;> rw [h1, h2, h3] at h ⊢ <;> omega
/-- Second numbers of conjugate matrices are equal. -/
theorem second_conj {m n : Mt} (hm : m.det = 1) (hn : n.det = 1) :
    ((n.mul m).mul n.inv).phi - 3 * sgP ((n.mul m).mul n.inv).c * sgP (((n.mul m).mul n.inv).a + ((n.mul m).mul n.inv).d) = m.phi - 3 * sgP m.c * sgP (m.a + m.d) := by
  have hnm : (n.mul m).det = 1 := by rw [Mt.det_mul, hm, hn]; rfl
  have e1 := phi_mul hn hm
  have e2 := phi_mul hnm (Mt.det_inv hn)
  rw [Mt.phi_inv hn, e1] at e2
  have et : ((n.mul m).mul n.inv).a + ((n.mul m).mul n.inv).d = m.a + m.d := by
    unfold Mt.det at hn
    unfold Mt.mul Mt.inv
    simp only
    grind
  have eq : m.c * ((n.mul m).mul n.inv).c = (n.mul m).c * (n.mul m).c - (m.a + m.d) * ((n.mul m).c * n.c) + n.c * n.c := by
    unfold Mt.det at hm hn
    unfold Mt.mul Mt.inv
    simp only
    grind
  have ez : n.c = 0 → (n.mul m).c = 0 → m.c = 0 ∧ ((n.mul m).mul n.inv).c = 0 := by
    intro h1 h2
    unfold Mt.det at hn
    have h3 : m.c = 0 := by
      unfold Mt.mul at h2
      simp only [h1] at h2
      rw [h1] at hn
      have h4 : n.d * m.c = 0 := by omega
      rcases Int.mul_eq_zero.1 h4 with h5 | h5
      · rw [h5] at hn; simp at hn
      · exact h5
    refine ⟨h3, ?_⟩
    unfold Mt.mul Mt.inv
    simp only [h1, h3]
    simp
  have ei : n.inv.c = -n.c := rfl
  rw [ei, sg_neg] at e2
  rw [et, e2]
  generalize ((n.mul m).mul n.inv).c = C at *
  generalize (n.mul m).c = u at *
  generalize n.c = γ at *
  generalize m.c = c at *
  generalize m.a + m.d = t at *
  generalize n.phi = f at *
  generalize m.phi = g at *
  -- the signs
  have key : sgP C = sgP c ∨ sgP t = sgP γ * sgP u := by
    by_cases hu : u * γ = 0
    · have h0 : u * u + γ * γ ≤ 0 ∨ 0 < c * C := by
        rw [hu] at eq
        simp at eq
        omega
      rcases h0 with h0 | h0
      · have hu0 : u = 0 := by
          have a1 : 0 ≤ u * u := sq_nn u
          have a2 : 0 ≤ γ * γ := sq_nn γ
          have : u * u = 0 := by omega
          rcases Int.mul_eq_zero.1 this with h | h <;> exact h
        have hγ0 : γ = 0 := by
          have a1 : 0 ≤ u * u := sq_nn u
          have a2 : 0 ≤ γ * γ := sq_nn γ
          have : γ * γ = 0 := by omega
          rcases Int.mul_eq_zero.1 this with h | h <;> exact h
        obtain ⟨h1, h2⟩ := ez hγ0 hu0
        left; rw [h1, h2]
      · left
        have := sg_prod_pos h0
        exact sg_eq this
    · by_cases hp : 0 < c * C
      · left
        have := sg_prod_pos hp
        exact sg_eq this
      · right
        have a1 : 0 ≤ u * u := sq_nn u
        have a2 : 0 ≤ γ * γ := sq_nn γ
        have a3 : 0 < u * u + γ * γ := by
          rcases Int.lt_or_le 0 (u * u + γ * γ) with h | h
          · exact h
          · have : u * u = 0 := by omega
            have hu0 : u = 0 := by rcases Int.mul_eq_zero.1 this with h | h <;> exact h
            exact absurd (by rw [hu0]; simp) hu
        have h1 : 0 < t * (u * γ) := by omega
        have h2 := sg_prod_pos h1
        rw [sg_mul] at h2
        exact sg_eq3 h2
  rcases key with h | h
  · rw [h]
    rcases sg_cases c with h1 | h1 | h1 <;> rcases sg_cases t with h2 | h2 | h2 <;> rcases sg_cases u with h3 | h3 | h3 <;> rcases sg_cases γ with h4 | h4 | h4 <;> rw [h1.2, h2.2, h3.2, h4.2] <;> omega
  · rw [h]
    rcases sg_cases c with h1 | h1 | h1 <;> rcases sg_cases C with h2 | h2 | h2 <;> rcases sg_cases u with h3 | h3 | h3 <;> rcases sg_cases γ with h4 | h4 | h4 <;> rw [h1.2, h2.2, h3.2, h4.2] <;> omega
theorem isMat_det {a b c d : Int} (h : IsMat a b c d) : (⟨a, b, c, d⟩ : Mt).det = 1 := h.det
theorem isMat_inv {a b c d : Int} (h : IsMat a b c d) : IsMat d (-b) (-c) a := by
  obtain ⟨a0, a1, b0, b1, c0, c1, d0, d1, e⟩ := h
  exact ⟨by omega, by omega, by omega, by omega, by omega, by omega, by omega, by omega, by rw [← e]; grind⟩
theorem first_open {a b c d : Int} (h : (firstAll a b c d).2 = 0) : IsMat a b c d ∧ (c.natAbs : Int) ≤ 20000 ∧ firstAll a b c d = (phi a b c d, 0) := by
  unfold firstAll firstRes at h ⊢
  split at h
  · rename_i hM
    split at h
    · simp at h
    · rename_i hc
      exact ⟨isMat_iff.1 hM, by omega, by rw [if_pos hM, if_neg hc, firstV_phi]⟩
  · simp at h
theorem codes_same (a b c d : Int) : (firstAll a b c d).2 = (secondRes a b c d).2 := by
  unfold firstAll firstRes secondRes
  split
  · split <;> rfl
  · rfl
theorem first_inv {a b c d : Int} (h : (firstAll a b c d).2 = 0) : firstAll d (-b) (-c) a = (-(firstAll a b c d).1, 0) := by
  obtain ⟨hm, hc, e⟩ := first_open h
  have hi := isMat_inv hm
  have ei : phi d (-b) (-c) a = -phi a b c d := Mt.phi_inv (isMat_det hm)
  rw [e]
  unfold firstAll firstRes
  rw [if_pos (isMat_iff.2 hi), if_neg (show ¬ 20000 < ((-c).natAbs : Int) by omega), firstV_phi, ei]
theorem first_bd {a b c d : Int} (h : (firstAll a b c d).2 = 0) : -1000000000000000000 ≤ (firstAll a b c d).1 ∧ (firstAll a b c d).1 ≤ 1000000000000000000 := by
  obtain ⟨hm, hc, e⟩ := first_open h
  rw [e, ← firstV_phi]
  exact firstV_bd hm hc
def invM (n : M4) : M4 := ⟨n.s, -n.q, -n.r, n.p⟩
theorem second_use {m n : M4} (hm : IsMat m.p m.q m.r m.s) (hn : IsMat n.p n.q n.r n.s) (h1 : (secondRes m.p m.q m.r m.s).2 = 0)
    (h2 : (secondRes (mulM (mulM n m) (invM n)).p (mulM (mulM n m) (invM n)).q (mulM (mulM n m) (invM n)).r (mulM (mulM n m) (invM n)).s).2 = 0) :
    (secondRes (mulM (mulM n m) (invM n)).p (mulM (mulM n m) (invM n)).q (mulM (mulM n m) (invM n)).r (mulM (mulM n m) (invM n)).s).1 = (secondRes m.p m.q m.r m.s).1 := by
  have key : ∀ {a b c d : Int}, (secondRes a b c d).2 = 0 → (secondRes a b c d).1 = phi a b c d - 3 * sgP c * sgP (a + d) := by
    intro a b c d h
    unfold secondRes at h ⊢
    split at h
    · rename_i hM
      split at h
      · simp at h
      · rename_i hc
        rw [if_pos hM, if_neg hc, firstV_phi]; rfl
    · simp at h
  rw [key h1, key h2]
  exact second_conj (m := ⟨m.p, m.q, m.r, m.s⟩) (n := ⟨n.p, n.q, n.r, n.s⟩) hm.det hn.det
theorem gap_use {m n : M4} (h : (gapRes m n).2 = 0) : isMatM m = true ∧ isMatM n = true ∧ entQ (mulM m n) = true ∧ (gapRes m n).1 = -3 * (sgP m.r * sgP n.r * sgP (mulM m n).r) := by
  unfold gapRes at h ⊢
  split at h
  · rename_i hMN
    split at h
    · rename_i hE
      rw [if_pos hMN, if_pos hE]
      simp only [Bool.and_eq_true] at hMN hE
      refine ⟨hMN.1, hMN.2, hE.1, ?_⟩
      have hm := isMat_iff.1 (show isMat m.p m.q m.r m.s = true from hMN.1)
      have hn := isMat_iff.1 (show isMat n.p n.q n.r n.s = true from hMN.2)
      have e := phi_mul (m := ⟨m.p, m.q, m.r, m.s⟩) (n := ⟨n.p, n.q, n.r, n.s⟩) hm.det hn.det
      have e1 : firstM (mulM m n) = ((⟨m.p, m.q, m.r, m.s⟩ : Mt).mul ⟨n.p, n.q, n.r, n.s⟩).phi := rfl
      have e2 : firstM m = (⟨m.p, m.q, m.r, m.s⟩ : Mt).phi := rfl
      have e3 : firstM n = (⟨n.p, n.q, n.r, n.s⟩ : Mt).phi := rfl
      rw [e1, e2, e3, e]
      have e4 : ((⟨m.p, m.q, m.r, m.s⟩ : Mt).mul ⟨n.p, n.q, n.r, n.s⟩).c = (mulM m n).r := rfl
      rw [e4]
      simp only
      omega
    · simp at h
  · simp at h
end Go.Proofs.Ytkhlgphmimddhaa
