/- Plain facts that the walks lean on, without the program: numbers, entries, forms, primes, normal pairs, cosets, cycles. No condition beyond each theorem's own. -/
/- Facts about whole numbers, no program in sight. -/
namespace Go.Proofs.Ytcaiofhdcffogaa
theorem mul_bd {a b A B : Int} (h1 : -A ≤ a) (h2 : a ≤ A) (h3 : -B ≤ b) (h4 : b ≤ B) : -(A * B) ≤ a * b ∧ a * b ≤ A * B := by
  have hA : 0 ≤ A := by omega
  have hB : 0 ≤ B := by omega
  have e : ∀ x y X Y : Int, 0 ≤ X → 0 ≤ Y → -X ≤ x → x ≤ X → -Y ≤ y → y ≤ Y → x * y ≤ X * Y := by
    intro x y X Y hX hY a1 a2 b1 b2
    rcases Int.le_total 0 x with h | h
    · exact Int.le_trans (Int.mul_le_mul_of_nonneg_left b2 h) (Int.mul_le_mul_of_nonneg_right a2 hY)
    · have : x * y = (-x) * (-y) := by rw [Int.neg_mul_neg]
      rw [this]
      exact Int.le_trans (Int.mul_le_mul_of_nonneg_left (show -y ≤ Y by omega) (show 0 ≤ -x by omega)) (Int.mul_le_mul_of_nonneg_right (show -x ≤ X by omega) hY)
  refine ⟨?_, e a b A B hA hB h1 h2 h3 h4⟩
  have := e (-a) b A B hA hB (by omega) (by omega) h3 h4
  rw [Int.neg_mul] at this
  omega
theorem sq_nn (a : Int) : 0 ≤ a * a := by
  rcases Int.le_total 0 a with h | h
  · exact Int.mul_nonneg h h
  · have : a * a = (-a) * (-a) := by rw [Int.neg_mul_neg]
    rw [this]; exact Int.mul_nonneg (by omega) (by omega)
def allB (n : Nat) (f : Nat → Bool) : Bool := (List.range n).all f
theorem allB_succ {n : Nat} {f : Nat → Bool} (h : allB n f = true) (h1 : f n = true) : allB (n + 1) f = true := by
  unfold allB at *; rw [List.range_succ, List.all_append, h]; simp [h1]
theorem allB_false {n k : Nat} {f : Nat → Bool} (hk : k < n) (h1 : f k = false) : allB n f = false := by
  unfold allB; rw [List.all_eq_false]; exact ⟨k, by simpa using hk, by simp [h1]⟩
def inB (n a b : Int) : Bool := decide (a ≤ n) && decide (n ≤ b)
def entB (n : Int) : Bool := inB n (-1000000000) 1000000000
theorem entB_iff {n : Int} : entB n = true ↔ -1000000000 ≤ n ∧ n ≤ 1000000000 := by simp [entB, inB]
theorem entB_no {n : Int} : entB n = false ↔ ¬ (-1000000000 ≤ n ∧ n ≤ 1000000000) := by rw [← entB_iff]; simp
def isMat (a b c d : Int) : Bool := entB a && (entB b && (entB c && (entB d && a * d - b * c == 1)))
structure IsMat (a b c d : Int) : Prop where
  a0 : -1000000000 ≤ a
  a1 : a ≤ 1000000000
  b0 : -1000000000 ≤ b
  b1 : b ≤ 1000000000
  c0 : -1000000000 ≤ c
  c1 : c ≤ 1000000000
  d0 : -1000000000 ≤ d
  d1 : d ≤ 1000000000
  det : a * d - b * c = 1
theorem isMat_iff {a b c d : Int} : isMat a b c d = true ↔ IsMat a b c d := by
  simp only [isMat, Bool.and_eq_true, entB_iff, beq_iff_eq]
  exact ⟨fun ⟨⟨h1, h2⟩, ⟨h3, h4⟩, ⟨h5, h6⟩, ⟨h7, h8⟩, h9⟩ => ⟨h1, h2, h3, h4, h5, h6, h7, h8, h9⟩, fun h => ⟨⟨h.a0, h.a1⟩, ⟨h.b0, h.b1⟩, ⟨h.c0, h.c1⟩, ⟨h.d0, h.d1⟩, h.det⟩⟩
def kindOf (a b c d : Int) : Int := if b = 0 ∧ c = 0 then 0 else if (a + d).natAbs < 2 then 1 else if (a + d).natAbs = 2 then 2 else 3
theorem diag {a b c d : Int} (h : a * d - b * c = 1) (hb : b = 0) (hc : c = 0) : (a = 1 ∧ d = 1) ∨ (a = -1 ∧ d = -1) := by
  subst hb; subst hc
  have h1 : a * d = 1 := by simpa using h
  have h2 := congrArg Int.natAbs h1
  rw [Int.natAbs_mul] at h2
  obtain ⟨h3, h4⟩ : a.natAbs = 1 ∧ d.natAbs = 1 := ⟨Nat.eq_one_of_mul_eq_one_left (by rw [Nat.mul_comm]; exact h2), Nat.eq_one_of_mul_eq_one_left h2⟩
  rcases (show a = 1 ∨ a = -1 by omega) with h5 | h5
  · subst h5; left; exact ⟨rfl, by simpa using h1⟩
  · subst h5; right; exact ⟨rfl, by omega⟩
def isForm (a b c : Int) : Bool := inB a (-1000000) 1000000 && (inB b (-1000000) 1000000 && (inB c (-1000000) 1000000 && !(a == 0 && (b == 0 && c == 0))))
structure Small (a b c : Int) : Prop where
  a0 : -1000000 ≤ a
  a1 : a ≤ 1000000
  b0 : -1000000 ≤ b
  b1 : b ≤ 1000000
  c0 : -1000000 ≤ c
  c1 : c ≤ 1000000
theorem small_of {a b c : Int} (h : isForm a b c = true) : Small a b c := by
  simp [isForm, inB] at h
  exact ⟨by omega, by omega, by omega, by omega, by omega, by omega⟩
def formAt (a b c x y : Int) : Int := a * x * x + b * x * y + c * y * y
def formMid (a b c p q r s : Int) : Int := 2 * a * p * q + b * (p * s + q * r) + 2 * c * r * s
def smallB (a b c : Int) : Bool := inB a (-1000000) 1000000 && (inB b (-1000000) 1000000 && inB c (-1000000) 1000000)
end Go.Proofs.Ytcaiofhdcffogaa
namespace Go.Proofs.Ytcaiofhdcffogaa
def smallM (p q r s : Int) : Bool := inB p (-1000) 1000 && (inB q (-1000) 1000 && (inB r (-1000) 1000 && inB s (-1000) 1000))
theorem smallM_iff {p q r s : Int} : smallM p q r s = true ↔ (-1000 ≤ p ∧ p ≤ 1000) ∧ (-1000 ≤ q ∧ q ≤ 1000) ∧ (-1000 ≤ r ∧ r ≤ 1000) ∧ (-1000 ≤ s ∧ s ≤ 1000) := by simp [smallM, inB]
theorem smallM_no {p q r s : Int} : smallM p q r s = false ↔ ¬ ((-1000 ≤ p ∧ p ≤ 1000) ∧ (-1000 ≤ q ∧ q ≤ 1000) ∧ (-1000 ≤ r ∧ r ≤ 1000) ∧ (-1000 ≤ s ∧ s ≤ 1000)) := by rw [← smallM_iff]; simp
end Go.Proofs.Ytcaiofhdcffogaa
namespace Go.Proofs.Ytcaiofhdcffogaa
def discOf (a b c : Int) : Int × Int := if isForm a b c = true then (b * b - 4 * a * c, 0) else (0, 1)
theorem discOf_no {a b c : Int} (h : isForm a b c = false) : discOf a b c = (0, 1) := by simp [discOf, h]
theorem discOf_yes {a b c : Int} (h : isForm a b c = true) : discOf a b c = (b * b - 4 * a * c, 0) := by simp [discOf, h]
end Go.Proofs.Ytcaiofhdcffogaa
namespace Go.Proofs.Ytcaiofhdcffogaa
def valAt (a b c x y : Int) : Int × Int := if isForm a b c = true then (if inB x (-1000) 1000 = true then (if inB y (-1000) 1000 = true then (formAt a b c x y, 0) else (0, 2)) else (0, 2)) else (0, 1)
theorem inB_iff {n a b : Int} : inB n a b = true ↔ a ≤ n ∧ n ≤ b := by simp [inB]
theorem inB_no {n a b : Int} : inB n a b = false ↔ ¬ (a ≤ n ∧ n ≤ b) := by rw [← inB_iff]; simp
/-- What 'applied' and 'l05Code' say. -/
def appliedCode (a b c p q r s : Int) : Int := if isForm a b c = true then (if isMat p q r s = true then (if smallM p q r s = true then 0 else 2) else 1) else 1
structure F3 where
  x : Int
  y : Int
  z : Int
  deriving DecidableEq
def madeForm (a b c p q r s : Int) : F3 := ⟨formAt a b c p r, formMid a b c p q r s, formAt a b c q s⟩
def applyM (a b c p q r s : Int) : F3 × Int :=
  if appliedCode a b c p q r s = 0 then (if smallB (madeForm a b c p q r s).x (madeForm a b c p q r s).y (madeForm a b c p q r s).z = true then (madeForm a b c p q r s, 0) else (⟨0, 0, 0⟩, 3)) else (⟨0, 0, 0⟩, appliedCode a b c p q r s)
def keepsF (a b c p q r s : Int) : Bool × Int :=
  if appliedCode a b c p q r s = 0 then ((formAt a b c p r == a && (formMid a b c p q r s == b && formAt a b c q s == c)), 0) else (false, appliedCode a b c p q r s)
end Go.Proofs.Ytcaiofhdcffogaa
/- Plain facts on made forms. -/
namespace Go.Proofs.Ytcaiofhdcffogaa
theorem made_bd {a b c p q r s : Int} (h : Small a b c) (hs : smallM p q r s = true) :
    (-9000000000000000000 ≤ formAt a b c p r ∧ formAt a b c p r ≤ 9000000000000000000) ∧ (-9000000000000000000 ≤ formMid a b c p q r s ∧ formMid a b c p q r s ≤ 9000000000000000000) ∧ (-9000000000000000000 ≤ formAt a b c q s ∧ formAt a b c q s ≤ 9000000000000000000) := by
  obtain ⟨a0, a1, b0, b1, c0, c1⟩ := h
  obtain ⟨⟨p0, p1⟩, ⟨q0, q1⟩, ⟨r0, r1⟩, s0, s1⟩ := smallM_iff.1 hs
  have at_ : ∀ x y : Int, -1000 ≤ x → x ≤ 1000 → -1000 ≤ y → y ≤ 1000 → -9000000000000000000 ≤ formAt a b c x y ∧ formAt a b c x y ≤ 9000000000000000000 := by
    intro x y x0 x1 y0 y1
    have e1 := mul_bd a0 a1 x0 x1
    have e2 := mul_bd e1.1 e1.2 x0 x1
    have e3 := mul_bd b0 b1 x0 x1
    have e4 := mul_bd e3.1 e3.2 y0 y1
    have e5 := mul_bd c0 c1 y0 y1
    have e6 := mul_bd e5.1 e5.2 y0 y1
    unfold formAt
    omega
  refine ⟨at_ p r p0 p1 r0 r1, ?_, at_ q s q0 q1 s0 s1⟩
  have e1 := mul_bd (a := 2 * a) (b := p) (A := 2000000) (B := 1000) (by omega) (by omega) p0 p1
  have e2 := mul_bd e1.1 e1.2 q0 q1
  have e3 := mul_bd p0 p1 s0 s1
  have e4 := mul_bd q0 q1 r0 r1
  have e5 := mul_bd (a := b) (b := p * s + q * r) (A := 1000000) (B := 2000000) b0 b1 (by omega) (by omega)
  have e6 := mul_bd (a := 2 * c) (b := r) (A := 2000000) (B := 1000) (by omega) (by omega) r0 r1
  have e7 := mul_bd e6.1 e6.2 s0 s1
  unfold formMid
  omega
/-- A matrix with the determinant 1 makes no form 0. -/
theorem made_ne {a b c p q r s : Int} (h : isForm a b c = true) (hd : p * s - q * r = 1) : ¬ (formAt a b c p r = 0 ∧ formMid a b c p q r s = 0 ∧ formAt a b c q s = 0) := by
  rintro ⟨h1, h2, h3⟩
  have ha : a = formAt a b c p r * s * s - formMid a b c p q r s * s * r + formAt a b c q s * r * r := by
    have : a = a * ((p * s - q * r) * (p * s - q * r)) := by rw [hd]; simp
    unfold formAt formMid
    grind
  have hc : c = formAt a b c p r * q * q - formMid a b c p q r s * p * q + formAt a b c q s * p * p := by
    have : c = c * ((p * s - q * r) * (p * s - q * r)) := by rw [hd]; simp
    unfold formAt formMid
    grind
  have hb : b = -2 * formAt a b c p r * q * s + formMid a b c p q r s * (p * s + q * r) - 2 * formAt a b c q s * p * r := by
    have : b = b * ((p * s - q * r) * (p * s - q * r)) := by rw [hd]; simp
    unfold formAt formMid
    grind
  rw [h1, h2, h3] at ha hb hc
  simp at ha hb hc
  subst ha; subst hb; subst hc
  simp [isForm] at h
theorem small_form {a b c : Int} (h : ¬ (a = 0 ∧ b = 0 ∧ c = 0)) : isForm a b c = smallB a b c := by
  rw [Bool.eq_iff_iff]
  simp [isForm, smallB, inB]
  omega
theorem appliedCode_0 {a b c p q r s : Int} (h : appliedCode a b c p q r s = 0) : isForm a b c = true ∧ isMat p q r s = true ∧ smallM p q r s = true := by
  unfold appliedCode at h
  split at h
  · split at h
    · split at h
      · exact ⟨‹_›, ‹_›, ‹_›⟩
      · omega
    · omega
  · omega
theorem appliedCode_yes {a b c p q r s : Int} (h1 : isForm a b c = true) (h2 : isMat p q r s = true) (h3 : smallM p q r s = true) : appliedCode a b c p q r s = 0 := by simp [appliedCode, h1, h2, h3]
end Go.Proofs.Ytcaiofhdcffogaa
namespace Go.Proofs.Ytcaiofhdcffogaa
/-- What an int64 holds. -/
def I64 (x : Int) : Prop := -9223372036854775808 ≤ x ∧ x ≤ 9223372036854775807
end Go.Proofs.Ytcaiofhdcffogaa
/- Plain facts: rests, quotients rounded down, greatest common divisors. -/
namespace Go.Proofs.Ytcaiofhdcffogaa
theorem tmod_bd {a n : Int} (hn : 0 < n) : -n < a.tmod n ∧ a.tmod n < n := by
  have h1 := Int.natAbs_tmod a n
  have h2 : a.natAbs % n.natAbs < n.natAbs := Nat.mod_lt _ (by omega)
  omega
theorem rest_eq {a n : Int} (hn : 0 < n) : (a.tmod n + n).tmod n = a % n := by
  have h := @tmod_bd a n hn
  rw [Int.tmod_eq_emod_of_nonneg (by omega), Int.add_emod_right, Int.tmod_eq_emod]
  split
  · simp
  · rw [Int.sub_emod, Int.emod_emod_of_dvd _ (Int.dvd_refl n)]
    have : (n.natAbs : Int) = n := by omega
    rw [this, Int.emod_self]; simp
theorem rest_eq' {a n : Int} (hn : 0 < n) : (a.tmod n + n) % n = a % n := by
  have h := @tmod_bd a n hn
  have h2 := @rest_eq a n hn
  rw [Int.tmod_eq_emod_of_nonneg (by omega)] at h2
  exact h2
theorem ediv_bd {a b K : Int} (hb : 0 < b) (h1 : -K ≤ a) (h2 : a ≤ K) : -K ≤ a / b ∧ a / b ≤ K := by
  rcases Int.le_total 0 a with h | h
  · have := Int.ediv_nonneg h (Int.le_of_lt hb)
    have := Int.ediv_le_self b h
    omega
  · have h3 : a ≤ a / b := (Int.le_ediv_iff_mul_le hb).2 (by
      have := Int.mul_le_mul_of_nonpos_left h (show (1 : Int) ≤ b by omega)
      omega)
    have h4 : a / b ≤ 0 := Int.ediv_nonpos_of_nonpos_of_neg h (by omega)
    omega
theorem floor_t {a b : Int} (hb : 0 < b) (h : a.tmod b ≠ 0) (ha : a < 0) : a.tdiv b - 1 = a / b := by
  rw [Int.tdiv_eq_ediv]
  have : ¬ (0 ≤ a ∨ b ∣ a) := by
    rintro (h1 | h1)
    · omega
    · exact h (Int.tmod_eq_zero_of_dvd h1)
  rw [if_neg this, Int.sign_eq_one_of_pos hb]; omega
theorem floor_z {a b : Int} (h : a.tmod b = 0) : a.tdiv b = a / b := by
  rw [Int.tdiv_eq_ediv, if_pos (.inr (Int.dvd_of_tmod_eq_zero h))]; omega
theorem floor_p {a b : Int} (h : 0 ≤ a) : a.tdiv b = a / b := Int.tdiv_eq_ediv_of_nonneg h
theorem gcd_step {p q : Int} (_hq : q ≠ 0) : Int.gcd q (p.tmod q) = Int.gcd p q := by
  show Nat.gcd q.natAbs (p.tmod q).natAbs = Nat.gcd p.natAbs q.natAbs
  rw [Int.natAbs_tmod, Nat.gcd_comm p.natAbs, Nat.gcd_rec q.natAbs p.natAbs, Nat.gcd_comm]
theorem tmod_lt {p q : Int} (hq : q ≠ 0) : (p.tmod q).natAbs < q.natAbs := by
  rw [Int.natAbs_tmod]; exact Nat.mod_lt _ (by omega)
theorem gcd_zero' {p q : Int} (hq : q = 0) : (Int.gcd p q : Int) = p.natAbs := by subst hq; simp
theorem tmod_small {p q K : Int} (hq : q ≠ 0) (h1 : -K ≤ q) (h2 : q ≤ K) : -K ≤ p.tmod q ∧ p.tmod q ≤ K := by
  have := @tmod_lt p q hq
  omega
end Go.Proofs.Ytcaiofhdcffogaa
/- Plain facts: the form of a matrix. -/
namespace Go.Proofs.Ytcaiofhdcffogaa
theorem tdiv_bd {a b K : Int} (h1 : -K ≤ a) (h2 : a ≤ K) : -K ≤ a.tdiv b ∧ a.tdiv b ≤ K := by
  have h3 : (a.tdiv b).natAbs = a.natAbs / b.natAbs := by rw [Int.natAbs_tdiv]; rfl
  have h4 : a.natAbs / b.natAbs ≤ a.natAbs := Nat.div_le_self _ _
  omega
def formGcd (a b c d : Int) : Int := (Int.gcd (Int.gcd c (d - a)) (-b) : Int)
/-- What FormOfMatrix says of a matrix that is one. -/
def formOfM (a b c d : Int) : F3 × Int :=
  if kindOf a b c d = 0 then (⟨0, 0, 0⟩, 5) else
  if smallB (c.tdiv (formGcd a b c d)) ((d - a).tdiv (formGcd a b c d)) (-(b.tdiv (formGcd a b c d))) = true then (⟨c.tdiv (formGcd a b c d), (d - a).tdiv (formGcd a b c d), -(b.tdiv (formGcd a b c d))⟩, 0) else (⟨0, 0, 0⟩, 3)
theorem kind_ne {a b c d : Int} (h : kindOf a b c d ≠ 0) : ¬ (b = 0 ∧ c = 0) := fun hh => h (by unfold kindOf; rw [if_pos hh])
theorem kind_0 {a b c d : Int} (h : kindOf a b c d = 0) : b = 0 ∧ c = 0 := by
  unfold kindOf at h
  split at h
  · assumption
  · split at h
    · omega
    · split at h <;> omega
theorem formGcd_dvd (a b c d : Int) : formGcd a b c d ∣ c ∧ formGcd a b c d ∣ d - a ∧ formGcd a b c d ∣ -b := by
  unfold formGcd
  refine ⟨Int.dvd_trans (Int.gcd_dvd_left _ _) (Int.gcd_dvd_left _ _), Int.dvd_trans (Int.gcd_dvd_left _ _) (Int.gcd_dvd_right _ _), Int.gcd_dvd_right _ _⟩
theorem formGcd_pos {a b c d : Int} (h : ¬ (b = 0 ∧ c = 0)) : 1 ≤ formGcd a b c d := by
  have h0 : 0 ≤ formGcd a b c d := by unfold formGcd; omega
  have h1 : formGcd a b c d ≠ 0 := by
    intro e
    obtain ⟨d1, _, d3⟩ := formGcd_dvd a b c d
    rw [e] at d1 d3
    have := Int.zero_dvd.1 d1
    have := Int.zero_dvd.1 d3
    exact h ⟨by omega, by omega⟩
  omega
theorem formGcd_le {a b c d : Int} (h : IsMat a b c d) (hn : ¬ (b = 0 ∧ c = 0)) : formGcd a b c d ≤ 1000000000 := by
  obtain ⟨d1, _, d3⟩ := formGcd_dvd a b c d
  obtain ⟨_, _, b0, b1, c0, c1, _⟩ := h
  by_cases hb : b = 0
  · have hc : c ≠ 0 := fun e => hn ⟨hb, e⟩
    rcases Int.lt_or_gt_of_ne hc with h1 | h1
    · have := Int.le_of_dvd (show 0 < -c by omega) (Int.dvd_neg.2 d1); omega
    · have := Int.le_of_dvd h1 d1; omega
  · rcases Int.lt_or_gt_of_ne hb with h1 | h1
    · have := Int.le_of_dvd (show 0 < -b by omega) d3; omega
    · have := Int.le_of_dvd h1 (Int.dvd_neg.1 d3); omega
theorem formOf_ne {a b c d : Int} (h : ¬ (b = 0 ∧ c = 0)) : ¬ (c.tdiv (formGcd a b c d) = 0 ∧ (d - a).tdiv (formGcd a b c d) = 0 ∧ -(b.tdiv (formGcd a b c d)) = 0) := by
  rintro ⟨h1, _, h3⟩
  rw [← Int.neg_tdiv] at h3
  obtain ⟨d1, _, d3⟩ := formGcd_dvd a b c d
  have e1 := Int.mul_tdiv_cancel' d1
  have e3 := Int.mul_tdiv_cancel' d3
  rw [h1] at e1
  rw [h3] at e3
  exact h ⟨by omega, by omega⟩
end Go.Proofs.Ytcaiofhdcffogaa
namespace Go.Proofs.Ytcaiofhdcffogaa
def formOfMat (a b c d : Int) : F3 × Int := if isMat a b c d = true then formOfM a b c d else (⟨0, 0, 0⟩, 1)
end Go.Proofs.Ytcaiofhdcffogaa
/- Plain facts: fractions. -/
namespace Go.Proofs.Ytcaiofhdcffogaa
def isFrac (p q : Int) : Bool := entB p && (inB q 0 1000000000 && ((Int.gcd p q : Int) == 1 && (decide (0 < q) || p == 1)))
def fx (p q : Int) : Int := p.tdiv (Int.gcd p q : Int)
def fy (p q : Int) : Int := q.tdiv (Int.gcd p q : Int)
theorem gcd_pos_right {p q : Int} (h : 0 < q) : 0 < (Int.gcd p q : Int) := by
  have := Int.gcd_pos_of_ne_zero_right p (show q ≠ 0 by omega)
  omega
structure FracBd (p q K : Int) : Prop where
  g : 0 < (Int.gcd p q : Int)
  x0 : -K ≤ fx p q
  x1 : fx p q ≤ K
  y0 : -K ≤ fy p q
  y1 : fy p q ≤ K
theorem fracBd {p q K : Int} (h : 0 < q) (p0 : -K ≤ p) (p1 : p ≤ K) (q1 : q ≤ K) : FracBd p q K :=
  ⟨gcd_pos_right h, (tdiv_bd p0 p1).1, (tdiv_bd p0 p1).2, (tdiv_bd (a := q) (K := K) (by omega) q1).1, (tdiv_bd (a := q) (K := K) (by omega) q1).2⟩
theorem isFrac_iff {p q : Int} : isFrac p q = true ↔ (-1000000000 ≤ p ∧ p ≤ 1000000000) ∧ (0 ≤ q ∧ q ≤ 1000000000) ∧ (Int.gcd p q : Int) = 1 ∧ (0 < q ∨ p = 1) := by
  simp [isFrac, entB, inB]
end Go.Proofs.Ytcaiofhdcffogaa
/- Plain facts: whole square roots; reduced forms. -/
namespace Go.Proofs.Ytcaiofhdcffogaa
theorem mul_le_self {x y : Int} (h0 : 0 ≤ x) (h : x ≤ y) : x * x ≤ y * y := Int.le_trans (Int.mul_le_mul_of_nonneg_left h h0) (Int.mul_le_mul_of_nonneg_right h (Int.le_trans h0 h))
theorem lt_of_sq {x y : Int} (hy : 0 ≤ y) (h : x * x < y * y) : x < y := by
  refine Int.not_le.1 fun hh => ?_
  have := mul_le_self hy hh
  omega
theorem le_of_sq {x y : Int} (hy : 0 ≤ y) (h : x * x ≤ y * y) : x ≤ y := by
  refine Int.not_lt.1 fun hh => ?_
  have h1 : y + 1 ≤ x := by omega
  have := mul_le_self (show 0 ≤ y + 1 by omega) h1
  have h2 : (y + 1) * (y + 1) = y * y + 2 * y + 1 := by grind
  omega
/-- r is the whole square root of d. -/
structure IsRoot (r d : Int) : Prop where
  nn : 0 ≤ r
  lo : r * r ≤ d
  hi : d < (r + 1) * (r + 1)
theorem root_unique {r s d : Int} (h : IsRoot r d) (h' : IsRoot s d) : r = s := by
  have h1 : r < s + 1 := lt_of_sq (by have := h'.nn; omega) (Int.lt_of_le_of_lt h.lo h'.hi)
  have h2 : s < r + 1 := lt_of_sq (by have := h.nn; omega) (Int.lt_of_le_of_lt h'.lo h.hi)
  omega
def rootUp : Nat → Nat → Nat
  | 0, _ => 0
  | k + 1, n => if (rootUp k n + 1) * (rootUp k n + 1) ≤ n then rootUp k n + 1 else rootUp k n
theorem rootUp_lo : ∀ (k n : Nat), rootUp k n * rootUp k n ≤ n
  | 0, n => by simp [rootUp]
  | k + 1, n => by
    unfold rootUp
    split
    · assumption
    · exact rootUp_lo k n
theorem rootUp_hi : ∀ (k n : Nat), k ≤ rootUp k n ∨ n < (rootUp k n + 1) * (rootUp k n + 1)
  | 0, n => by simp
  | k + 1, n => by
    have ih := rootUp_hi k n
    unfold rootUp
    split
    · rename_i h
      rcases ih with h1 | h1
      · left; omega
      · omega
    · rename_i h; right; omega
def isqrt (d : Int) : Int := (rootUp (d.toNat + 1) d.toNat : Nat)
theorem isqrt_root {d : Int} (h : 0 ≤ d) : IsRoot (isqrt d) d := by
  have h1 := rootUp_lo (d.toNat + 1) d.toNat
  have h2 := rootUp_hi (d.toNat + 1) d.toNat
  unfold isqrt
  generalize rootUp (d.toNat + 1) d.toNat = r at h1 h2
  have e : ((d.toNat : Nat) : Int) = d := by omega
  have h1' : (r : Int) * r ≤ d := by rw [← e]; exact_mod_cast h1
  refine ⟨by omega, h1', ?_⟩
  rcases h2 with h2 | h2
  · have h3 : d + 1 ≤ (r : Int) := by omega
    have h4 : (r : Int) ≤ r * r := by
      have := Int.mul_le_mul_of_nonneg_left (show (1 : Int) ≤ r by omega) (show (0 : Int) ≤ r by omega)
      omega
    omega
  · rw [← e]; exact_mod_cast h2
def sqB (d : Int) : Bool := isqrt d * isqrt d == d
/-- The Bool of 'isReduced'. -/
def disc (a b c : Int) : Int := b * b - 4 * a * c
def redDef (a b c : Int) : Bool := decide (-a ≤ b ∧ b ≤ a ∧ a ≤ c ∧ (0 ≤ b ∨ (-b ≠ a ∧ a ≠ c)))
def redInd (a b c : Int) : Bool := decide (0 < b ∧ b * b < disc a b c ∧ disc a b c < (2 * (a.natAbs : Int) + b) * (2 * (a.natAbs : Int) + b) ∧ (2 * (a.natAbs : Int) < b ∨ (2 * (a.natAbs : Int) - b) * (2 * (a.natAbs : Int) - b) < disc a b c))
def redB (a b c : Int) : Bool := if disc a b c < 0 ∧ 0 < a then redDef a b c else redInd a b c
theorem disc_bd {a b c : Int} (h : Small a b c) : -4000000000000 ≤ disc a b c ∧ disc a b c ≤ 5000000000000 := by
  obtain ⟨a0, a1, b0, b1, c0, c1⟩ := h
  have h1 := mul_bd b0 b1 b0 b1
  have h2 := mul_bd (a := 4 * a) (b := c) (A := 4000000) (B := 1000000) (by omega) (by omega) c0 c1
  have h3 := sq_nn b
  unfold disc
  omega
end Go.Proofs.Ytcaiofhdcffogaa
/- Plain facts: the whole square root by halves; reduced forms. -/
namespace Go.Proofs.Ytcaiofhdcffogaa
structure SqInv (n x y : Int) : Prop where
  lo : x * x ≤ n
  st : (y = 0 ∧ n < (x + 1) * (x + 1)) ∨ ∃ j : Nat, y = ((2 ^ j : Nat) : Int) ∧ n < (x + 2 * y) * (x + 2 * y)
theorem sqInv_start {n : Int} (h0 : 0 ≤ n) (h : n ≤ 5000000000000) : SqInv n 0 2147483648 :=
  ⟨by simpa using h0, .inr ⟨31, by decide, by omega⟩⟩
theorem sqInv_x {n x y : Int} (h : SqInv n x y) (hn : n ≤ 5000000000000) : x ≤ 2236068 := by
  refine Int.not_lt.1 fun hh => ?_
  have h1 := mul_le_self (show (0 : Int) ≤ 2236069 by omega) (show (2236069 : Int) ≤ x by omega)
  have := h.lo
  omega
theorem sqInv_half {n x x' y : Int} (hy : 0 < y) (h : SqInv n x y) (hlo : x' * x' ≤ n) (hhi : n < (x' + y) * (x' + y)) : SqInv n x' (y / 2) := by
  refine ⟨hlo, ?_⟩
  rcases h.st with ⟨h1, _⟩ | ⟨j, hj, _⟩
  · omega
  · cases j with
    | zero => left; simp at hj; subst hj; exact ⟨by decide, hhi⟩
    | succ j =>
      right
      refine ⟨j, ?_, ?_⟩
      · rw [hj, Nat.pow_succ]; omega
      · have : 2 * (y / 2) = y := by rw [hj, Nat.pow_succ]; omega
        rw [this]; exact hhi
theorem sqInv_no {n x y : Int} (hy : 0 < y) (h : SqInv n x y) (hno : ¬ (x + y) * (x + y) ≤ n) : SqInv n x (y / 2) := sqInv_half hy h h.lo (by omega)
theorem sqInv_yes {n x y : Int} (hy : 0 < y) (h : SqInv n x y) (hyes : (x + y) * (x + y) ≤ n) : SqInv n (x + y) (y / 2) := by
  refine sqInv_half hy h hyes ?_
  rcases h.st with ⟨h1, _⟩ | ⟨j, _, h2⟩
  · omega
  · have : x + y + y = x + 2 * y := by omega
    rw [this]; exact h2
theorem sqInv_end {n x : Int} (h : SqInv n x 0) (hx : 0 ≤ x) : IsRoot x n := by
  refine ⟨hx, h.lo, ?_⟩
  rcases h.st with ⟨_, h2⟩ | ⟨j, hj, _⟩
  · exact h2
  · have := Nat.two_pow_pos j
    omega
theorem sqB_eq {n x : Int} (h : IsRoot x n) (hn : 0 ≤ n) : (x * x == n) = sqB n := by
  unfold sqB; rw [root_unique h (isqrt_root hn)]
theorem isqrt_le {d K : Int} (h0 : 0 ≤ d) (hK : 0 ≤ K) (h : d < (K + 1) * (K + 1)) : isqrt d ≤ K := by
  have := (isqrt_root h0).lo
  have := lt_of_sq (show 0 ≤ K + 1 by omega) (Int.lt_of_le_of_lt this h)
  omega
theorem isqrt_bd {d : Int} (h0 : 0 ≤ d) (h1 : d ≤ 5000000000000) : 0 ≤ isqrt d ∧ isqrt d ≤ 2236068 := ⟨(isqrt_root h0).nn, isqrt_le h0 (by omega) (by omega)⟩
end Go.Proofs.Ytcaiofhdcffogaa
/- Plain facts: definite forms are reduced by steps. -/
namespace Go.Proofs.Ytcaiofhdcffogaa
structure M4 where
  p : Int
  q : Int
  r : Int
  s : Int
  deriving DecidableEq
structure RS where
  f : F3
  m : M4
def stepM (f : F3) : M4 := if inB f.y (-f.x + 1) f.x = true then ⟨0, -1, 1, 0⟩ else ⟨1, (-f.x - f.y) / (2 * f.x) + 1, 0, 1⟩
def mulM (m n : M4) : M4 := ⟨m.p * n.p + m.q * n.r, m.p * n.q + m.q * n.s, m.r * n.p + m.s * n.r, m.r * n.q + m.s * n.s⟩
def stepR (c : RS) : RS := ⟨madeForm c.f.x c.f.y c.f.z (stepM c.f).p (stepM c.f).q (stepM c.f).r (stepM c.f).s, mulM c.m (stepM c.f)⟩
def reduceN : Nat → RS → RS
  | 0, c => c
  | k + 1, c => if redB c.f.x c.f.y c.f.z = true then c else reduceN k (stepR c)
theorem reduceN_done {k : Nat} {c : RS} (h : redB c.f.x c.f.y c.f.z = true) : reduceN k c = c := by
  cases k with
  | zero => rfl
  | succ k => unfold reduceN; rw [if_pos h]
theorem reduceN_step {k : Nat} {c : RS} (h : redB c.f.x c.f.y c.f.z = false) : reduceN (k + 1) c = reduceN k (stepR c) := by
  show (if redB c.f.x c.f.y c.f.z = true then c else reduceN k (stepR c)) = _
  rw [h]; simp
def meas (f : F3) : Int := 4 * f.x + (if inB f.y (-f.x + 1) f.x = true then (if f.y < 0 then 2 else 1) else 3)
/-- What holds of a definite form on its way, and of its matrix; a, b, c: the form at the start. -/
structure DefInv (a b c : Int) (t : RS) : Prop where
  sm : Small t.f.x t.f.y t.f.z
  x0 : 0 < t.f.x
  z0 : 0 < t.f.z
  d : disc t.f.x t.f.y t.f.z < 0
  dd : disc t.f.x t.f.y t.f.z = disc a b c
  f1 : formAt a b c t.m.p t.m.r = t.f.x
  f2 : formMid a b c t.m.p t.m.q t.m.r t.m.s = t.f.y
  f3 : formAt a b c t.m.q t.m.s = t.f.z
  det : t.m.p * t.m.s - t.m.q * t.m.r = 1
theorem pos_c {a b c : Int} (h : disc a b c < 0) (ha : 0 < a) : 0 < c := by
  refine Int.not_le.1 fun hc => ?_
  have h1 : 4 * a * c ≤ 0 := by
    have := Int.mul_nonpos_of_nonneg_of_nonpos (show 0 ≤ 4 * a by omega) hc
    exact this
  have h2 := sq_nn b
  unfold disc at h
  omega
theorem inv_start {a b c : Int} (h : Small a b c) (hd : disc a b c < 0) (ha : 0 < a) : DefInv a b c ⟨⟨a, b, c⟩, ⟨1, 0, 0, 1⟩⟩ := by
  refine ⟨h, ha, pos_c hd ha, hd, rfl, ?_, ?_, ?_, ?_⟩ <;> simp [formAt, formMid]
/-- A value of a definite form bounds what it is taken at. -/
theorem at_sq {a b c x y v K : Int} (hd : disc a b c ≤ -3) (hv : formAt a b c x y = v) (ha : 0 < a) (ha1 : a ≤ 1000000) (hv1 : v ≤ 1000000) (hK : K = 1154701) : -K ≤ y ∧ y ≤ K := by
  have e : 4 * a * v = (2 * a * x + b * y) * (2 * a * x + b * y) - disc a b c * (y * y) := by
    rw [← hv]; unfold formAt disc; grind
  have h1 := sq_nn (2 * a * x + b * y)
  have h2 := sq_nn y
  have hv0 : 0 ≤ v ∨ v < 0 := by omega
  have h3 : 3 * (y * y) ≤ 4 * a * v := by
    have := Int.mul_le_mul_of_nonneg_right (show 3 ≤ -disc a b c by omega) h2
    rw [Int.neg_mul] at this
    omega
  have h4 : 4 * a * v ≤ 4000000000000 := by
    rcases hv0 with h | h
    · have := Int.mul_le_mul (show 4 * a ≤ 4000000 by omega) hv1 h (by omega)
      omega
    · have := Int.mul_nonpos_of_nonneg_of_nonpos (show 0 ≤ 4 * a by omega) (show v ≤ 0 by omega)
      omega
  subst hK
  constructor
  · refine Int.not_lt.1 fun hh => ?_
    have := mul_le_self (show (0 : Int) ≤ 1154702 by omega) (show (1154702 : Int) ≤ -y by omega)
    rw [Int.neg_mul_neg] at this
    omega
  · refine Int.not_lt.1 fun hh => ?_
    have := mul_le_self (show (0 : Int) ≤ 1154702 by omega) (show (1154702 : Int) ≤ y by omega)
    omega
theorem at_flip (a b c x y : Int) : formAt a b c x y = formAt c b a y x := by unfold formAt; grind
theorem disc_flip (a b c : Int) : disc a b c = disc c b a := by unfold disc; grind
theorem disc_mod {a b c : Int} (h : disc a b c < 0) : disc a b c ≤ -3 := by
  have h1 : disc a b c = b * b - 4 * (a * c) := by unfold disc; grind
  have h2 : b * b % 4 = 0 ∨ b * b % 4 = 1 := by
    rcases Int.emod_two_eq b with hb | hb
    · left
      have : b = 2 * (b / 2) := by omega
      rw [this, show 2 * (b / 2) * (2 * (b / 2)) = 4 * ((b / 2) * (b / 2)) by grind]; omega
    · right
      have : b = 2 * (b / 2) + 1 := by omega
      rw [this, show (2 * (b / 2) + 1) * (2 * (b / 2) + 1) = 4 * ((b / 2) * (b / 2) + b / 2) + 1 by grind]; omega
  omega
/-- The matrix's numbers stay small. -/
theorem inv_bd {a b c : Int} {t : RS} (h : DefInv a b c t) (hs : Small a b c) (ha : 0 < a) :
    (-1154701 ≤ t.m.p ∧ t.m.p ≤ 1154701) ∧ (-1154701 ≤ t.m.q ∧ t.m.q ≤ 1154701) ∧ (-1154701 ≤ t.m.r ∧ t.m.r ≤ 1154701) ∧ (-1154701 ≤ t.m.s ∧ t.m.s ≤ 1154701) := by
  have hd : disc a b c ≤ -3 := by rw [← h.dd]; exact disc_mod h.d
  have hc : 0 < c := pos_c (show disc a b c < 0 by omega) ha
  have hd' : disc c b a ≤ -3 := by rw [← disc_flip]; exact hd
  obtain ⟨_, a1, _, _, _, c1⟩ := hs
  obtain ⟨_, x1, _, _, _, z1⟩ := h.sm
  exact ⟨at_sq hd' (by rw [← at_flip]; exact h.f1) hc c1 x1 rfl, at_sq hd' (by rw [← at_flip]; exact h.f3) hc c1 z1 rfl, at_sq hd h.f1 ha a1 x1 rfl, at_sq hd h.f3 ha a1 z1 rfl⟩
theorem disc_made (a b c p q r s : Int) : disc (madeForm a b c p q r s).x (madeForm a b c p q r s).y (madeForm a b c p q r s).z = disc a b c * ((p * s - q * r) * (p * s - q * r)) := by
  unfold madeForm disc formAt formMid; grind
theorem made_mul (a b c : Int) (m n : M4) : madeForm (madeForm a b c m.p m.q m.r m.s).x (madeForm a b c m.p m.q m.r m.s).y (madeForm a b c m.p m.q m.r m.s).z n.p n.q n.r n.s = madeForm a b c (mulM m n).p (mulM m n).q (mulM m n).r (mulM m n).s := by
  unfold madeForm mulM formAt formMid
  simp only [F3.mk.injEq]
  refine ⟨by grind, by grind, by grind⟩
theorem det_mul (m n : M4) : (mulM m n).p * (mulM m n).s - (mulM m n).q * (mulM m n).r = (m.p * m.s - m.q * m.r) * (n.p * n.s - n.q * n.r) := by
  unfold mulM; grind
theorem det_step (f : F3) : (stepM f).p * (stepM f).s - (stepM f).q * (stepM f).r = 1 := by
  unfold stepM; split <;> simp
/-- A definite form that isn't reduced: swapped, or moved by k. -/
theorem step_S {f : F3} (h : inB f.y (-f.x + 1) f.x = true) (m : M4) : stepR ⟨f, m⟩ = ⟨⟨f.z, -f.y, f.x⟩, mulM m ⟨0, -1, 1, 0⟩⟩ := by
  unfold stepR stepM
  rw [if_pos h]
  simp [madeForm, formAt, formMid]
def stepK (f : F3) : Int := (-f.x - f.y) / (2 * f.x) + 1
theorem step_T {f : F3} (h : inB f.y (-f.x + 1) f.x = false) (m : M4) : stepR ⟨f, m⟩ = ⟨⟨f.x, f.y + 2 * f.x * stepK f, formAt f.x f.y f.z (stepK f) 1⟩, mulM m ⟨1, stepK f, 0, 1⟩⟩ := by
  unfold stepR stepM
  rw [if_neg (by rw [h]; simp)]
  simp only [madeForm, RS.mk.injEq, F3.mk.injEq]
  refine ⟨⟨?_, ?_, rfl⟩, rfl⟩
  · unfold formAt; grind
  · unfold formMid stepK; grind
/-- The moved middle number lies in -x + 1 .. x. -/
theorem stepK_in {f : F3} (hx : 0 < f.x) : -f.x < f.y + 2 * f.x * stepK f ∧ f.y + 2 * f.x * stepK f ≤ f.x := by
  have h1 := Int.emod_add_mul_ediv (-f.x - f.y) (2 * f.x)
  have h2 := Int.emod_nonneg (-f.x - f.y) (show 2 * f.x ≠ 0 by omega)
  have h3 := Int.emod_lt_of_pos (-f.x - f.y) (show 0 < 2 * f.x by omega)
  unfold stepK
  have h4 : 2 * f.x * ((-f.x - f.y) / (2 * f.x) + 1) = 2 * f.x * ((-f.x - f.y) / (2 * f.x)) + 2 * f.x := by grind
  omega
theorem stepK_bd {f : F3} (hx : 0 < f.x) (hs : Small f.x f.y f.z) : -1700000 ≤ stepK f ∧ stepK f ≤ 1700000 := by
  obtain ⟨_, a1, b0, b1, _, _⟩ := hs
  have h1 := stepK_in hx
  have h2 : -1000001 ≤ stepK f := by
    refine Int.not_lt.1 fun hh => ?_
    have := Int.mul_le_mul_of_nonneg_left (show stepK f ≤ -1000002 by omega) (show 0 ≤ 2 * f.x by omega)
    omega
  have h3 : stepK f ≤ 1000001 := by
    refine Int.not_lt.1 fun hh => ?_
    have := Int.mul_le_mul_of_nonneg_left (show 1000002 ≤ stepK f by omega) (show 0 ≤ 2 * f.x by omega)
    omega
  omega
theorem inv_step {a b c : Int} {t : RS} (h : DefInv a b c t) : DefInv a b c (stepR t) := by
  obtain ⟨f, m⟩ := t
  obtain ⟨sm, x0, z0, d, dd, f1, f2, f3, det⟩ := h
  simp only at *
  have hmade : madeForm a b c m.p m.q m.r m.s = f := by
    unfold madeForm; rw [f1, f2, f3]
  have hm2 : madeForm a b c (stepR ⟨f, m⟩).m.p (stepR ⟨f, m⟩).m.q (stepR ⟨f, m⟩).m.r (stepR ⟨f, m⟩).m.s = (stepR ⟨f, m⟩).f := by
    have := made_mul a b c m (stepM f)
    rw [hmade] at this
    exact this.symm
  have hdet : (stepR ⟨f, m⟩).m.p * (stepR ⟨f, m⟩).m.s - (stepR ⟨f, m⟩).m.q * (stepR ⟨f, m⟩).m.r = 1 := by
    have := det_mul m (stepM f)
    rw [det, det_step] at this
    simpa [stepR] using this
  have hdisc : disc (stepR ⟨f, m⟩).f.x (stepR ⟨f, m⟩).f.y (stepR ⟨f, m⟩).f.z = disc f.x f.y f.z := by
    have := disc_made f.x f.y f.z (stepM f).p (stepM f).q (stepM f).r (stepM f).s
    rw [det_step] at this
    simpa [stepR] using this
  have hfin : Small (stepR ⟨f, m⟩).f.x (stepR ⟨f, m⟩).f.y (stepR ⟨f, m⟩).f.z ∧ 0 < (stepR ⟨f, m⟩).f.x := by
    cases hi : inB f.y (-f.x + 1) f.x
    · have hk := @stepK_in f x0
      have hno := inB_no.1 hi
      have hT := step_T hi m
      rw [hT] at hdisc ⊢
      simp only at hdisc ⊢
      have hz : 0 < formAt f.x f.y f.z (stepK f) 1 := pos_c (b := f.y + 2 * f.x * stepK f) (a := f.x) (by rw [hdisc]; exact d) x0
      have hle : formAt f.x f.y f.z (stepK f) 1 ≤ f.z := by
        generalize formAt f.x f.y f.z (stepK f) 1 = z' at hdisc hz
        generalize f.y + 2 * f.x * stepK f = y' at hdisc hk
        have h1 : y' * y' ≤ f.y * f.y := by
          rcases Int.le_total 0 y' with h | h <;> rcases Int.le_total 0 f.y with h' | h'
          · exact mul_le_self h (by omega)
          · have := mul_le_self h (show y' ≤ -f.y by omega); rwa [Int.neg_mul_neg] at this
          · have := mul_le_self (show 0 ≤ -y' by omega) (show -y' ≤ f.y by omega); rwa [Int.neg_mul_neg] at this
          · have := mul_le_self (show 0 ≤ -y' by omega) (show -y' ≤ -f.y by omega); rwa [Int.neg_mul_neg, Int.neg_mul_neg] at this
        unfold disc at hdisc
        have h2 : 4 * f.x * z' ≤ 4 * f.x * f.z := by omega
        exact Int.le_of_mul_le_mul_left h2 (by omega)
      obtain ⟨a0, a1, b0, b1, c0, c1⟩ := sm
      exact ⟨⟨by omega, a1, by omega, by omega, by omega, by omega⟩, x0⟩
    · rw [step_S hi m]
      obtain ⟨a0, a1, b0, b1, c0, c1⟩ := sm
      exact ⟨⟨c0, c1, by simp only; omega, by simp only; omega, a0, a1⟩, z0⟩
  refine ⟨hfin.1, hfin.2, pos_c (by rw [hdisc]; exact d) hfin.2, by rw [hdisc]; exact d, by rw [hdisc]; exact dd, ?_, ?_, ?_, hdet⟩
  · exact congrArg F3.x hm2
  · exact congrArg F3.y hm2
  · exact congrArg F3.z hm2
theorem meas_step {a b c : Int} {t : RS} (h : DefInv a b c t) (hr : redB t.f.x t.f.y t.f.z = false) : meas (stepR t).f < meas t.f := by
  obtain ⟨f, m⟩ := t
  obtain ⟨sm, x0, z0, d, -, -, -, -, -⟩ := h
  simp only at *
  cases hi : inB f.y (-f.x + 1) f.x
  · have hk := @stepK_in f x0
    rw [step_T hi m]
    have hi2 : inB (f.y + 2 * f.x * stepK f) (-f.x + 1) f.x = true := inB_iff.2 (by omega)
    unfold meas
    simp only [hi, hi2]
    simp only [if_true, Bool.false_eq_true, if_false]
    split <;> omega
  · have hy := inB_iff.1 hi
    rw [step_S hi m]
    unfold redB at hr
    rw [if_pos ⟨d, x0⟩] at hr
    simp [redDef] at hr
    unfold meas
    simp only [hi, if_true]
    by_cases hxz : f.z < f.x
    · have : ∀ u : Int, u ≤ 3 → 4 * f.z + u < 4 * f.x + 1 := by intro u hu; omega
      have h1 := this (if inB (-f.y) (-f.z + 1) f.z = true then if -f.y < 0 then 2 else 1 else 3) (by split <;> (try split) <;> omega)
      split <;> omega
    · have hr2 := hr (by omega) (by omega) (by omega)
      have hyn : f.y < 0 := by omega
      have hxe : f.x = f.z := by
        have := hr2.2
        by_cases e : -f.y = f.x
        · omega
        · exact this e
      have hi2 : inB (-f.y) (-f.z + 1) f.z = true := inB_iff.2 (by omega)
      simp only [hi2, if_true]
      rw [if_neg (by omega), if_pos hyn]
      omega
theorem meas_pos {a b c : Int} {t : RS} (h : DefInv a b c t) : 0 ≤ meas t.f := by
  have := h.x0
  unfold meas
  split <;> (try split) <;> omega
/-- The reduced form and its matrix. -/
def reduceOf (a b c : Int) : RS := reduceN (meas ⟨a, b, c⟩).toNat ⟨⟨a, b, c⟩, ⟨1, 0, 0, 1⟩⟩
end Go.Proofs.Ytcaiofhdcffogaa
/- Plain facts: the next form of an indefinite form. -/
namespace Go.Proofs.Ytcaiofhdcffogaa
def nextB (a b c : Int) : Int := isqrt (disc a b c) - (isqrt (disc a b c) + b) % (2 * (c.natAbs : Int))
def nextK (a b c : Int) : Int := if c < 0 then -((isqrt (disc a b c) + b) / (2 * (c.natAbs : Int))) else (isqrt (disc a b c) + b) / (2 * (c.natAbs : Int))
def nextF (a b c : Int) : F3 := ⟨c, nextB a b c, formAt a b c (-1) (nextK a b c)⟩
theorem nextB_eq (a b c : Int) : nextB a b c + b = 2 * c * nextK a b c := by
  unfold nextB nextK
  generalize isqrt (disc a b c) = r
  have h := Int.mul_ediv_add_emod (r + b) (2 * (c.natAbs : Int))
  split
  · have e : 2 * (c.natAbs : Int) = -(2 * c) := by omega
    rw [e] at h ⊢
    have e2 : 2 * c * -((r + b) / -(2 * c)) = -(2 * c) * ((r + b) / -(2 * c)) := by rw [Int.mul_neg, Int.neg_mul]
    rw [e2]; omega
  · have e : 2 * (c.natAbs : Int) = 2 * c := by omega
    rw [e] at h ⊢
    omega
structure NextOk (a b c : Int) : Prop where
  c0 : c ≠ 0
  r0 : 0 ≤ isqrt (disc a b c)
  r1 : isqrt (disc a b c) ≤ 2236068
  d0 : 0 ≤ disc a b c
  d1 : disc a b c ≤ 5000000000000
  b0 : -2000000 ≤ nextB a b c
  b1 : nextB a b c ≤ 2236068
  k0 : -1700000 ≤ nextK a b c
  k1 : nextK a b c ≤ 1700000
  quo : (nextB a b c + b).tdiv (2 * c) = nextK a b c
  mid : formMid a b c 0 (-1) 1 (nextK a b c) = nextB a b c
  fst : formAt a b c 0 1 = c
  sq0 : 0 ≤ nextB a b c * nextB a b c
  sq1 : nextB a b c * nextB a b c ≤ 5000000200000
  l0 : -4000000000000000000 ≤ formAt a b c (-1) (nextK a b c)
  l1 : formAt a b c (-1) (nextK a b c) ≤ 4000000000000000000
  lst : (nextB a b c * nextB a b c - disc a b c).tdiv (4 * c) = formAt a b c (-1) (nextK a b c)
theorem next_ok {a b c : Int} (hs : Small a b c) (hd : 0 < disc a b c) (hc : c ≠ 0) : NextOk a b c := by
  have d1 := (disc_bd hs).2
  obtain ⟨r0, r1⟩ := isqrt_bd (Int.le_of_lt hd) d1
  have he := nextB_eq a b c
  have ⟨a0, a1, b0, b1, c0, c1⟩ := hs
  have hB : -2000000 ≤ nextB a b c ∧ nextB a b c ≤ 2236068 := by
    unfold nextB
    have h1 := Int.emod_nonneg (isqrt (disc a b c) + b) (show 2 * (c.natAbs : Int) ≠ 0 by omega)
    have h2 := Int.emod_lt_of_pos (isqrt (disc a b c) + b) (show 0 < 2 * (c.natAbs : Int) by omega)
    omega
  have hK : -1700000 ≤ nextK a b c ∧ nextK a b c ≤ 1700000 := by
    have h1 : -1700000 ≤ (isqrt (disc a b c) + b) / (2 * (c.natAbs : Int)) ∧ (isqrt (disc a b c) + b) / (2 * (c.natAbs : Int)) ≤ 1700000 := by
      have hp : 0 < 2 * (c.natAbs : Int) := by omega
      constructor
      · refine (Int.le_ediv_iff_mul_le hp).2 ?_; omega
      · refine Int.le_of_lt_add_one ((Int.ediv_lt_iff_lt_mul hp).2 ?_); omega
    unfold nextK; split <;> omega
  have hq := mul_bd (a := nextB a b c) (b := nextB a b c) (A := 2236068) (B := 2236068) (by omega) hB.2 (by omega) hB.2
  have hL : -4000000000000000000 ≤ formAt a b c (-1) (nextK a b c) ∧ formAt a b c (-1) (nextK a b c) ≤ 4000000000000000000 := by
    obtain ⟨k0, k1⟩ := hK
    have e1 := mul_bd (a := b) (b := nextK a b c) (A := 1000000) (B := 1700000) b0 b1 (by omega) (by omega)
    have e2 := mul_bd (a := c) (b := nextK a b c) (A := 1000000) (B := 1700000) c0 c1 (by omega) (by omega)
    have e3 := mul_bd (a := c * nextK a b c) (b := nextK a b c) (A := 1700000000000) (B := 1700000) (by omega) (by omega) (by omega) (by omega)
    have e : formAt a b c (-1) (nextK a b c) = a - b * nextK a b c + c * nextK a b c * nextK a b c := by unfold formAt; grind
    omega
  refine ⟨hc, r0, r1, Int.le_of_lt hd, d1, hB.1, hB.2, hK.1, hK.2, ?_, ?_, ?_, sq_nn _, by omega, hL.1, hL.2, ?_⟩
  · rw [he]; exact Int.mul_tdiv_cancel_left _ (by omega)
  · unfold formMid; simp only [Int.mul_zero, Int.zero_mul, Int.zero_add, Int.mul_one]; rw [show 2 * c * nextK a b c = nextB a b c + b from he.symm]; grind
  · unfold formAt; grind
  · have e : nextB a b c * nextB a b c - disc a b c = 4 * c * formAt a b c (-1) (nextK a b c) := by
      have : nextB a b c = 2 * c * nextK a b c - b := by omega
      rw [this]; unfold disc formAt; grind
    rw [e]; exact Int.mul_tdiv_cancel_left _ (by omega)
end Go.Proofs.Ytcaiofhdcffogaa
/- Plain facts: finite sums; reciprocity of the sums of h and k. -/
namespace Go.Proofs.Ytcaiofhdcffogaa
def S : Nat → (Nat → Int) → Int
  | 0, _ => 0
  | n + 1, f => S n f + f n
theorem S_succ (n : Nat) (f : Nat → Int) : S (n + 1) f = S n f + f n := rfl
theorem S_congr {n : Nat} {f g : Nat → Int} (h : ∀ i, i < n → f i = g i) : S n f = S n g := by
  induction n with
  | zero => rfl
  | succ n ih => simp only [S_succ]; rw [ih (fun i hi => h i (by omega)), h n (by omega)]
theorem S_add (n : Nat) (f g : Nat → Int) : S n (fun i => f i + g i) = S n f + S n g := by
  induction n with
  | zero => rfl
  | succ n ih => simp only [S_succ]; rw [ih]; omega
theorem S_sub (n : Nat) (f g : Nat → Int) : S n (fun i => f i - g i) = S n f - S n g := by
  induction n with
  | zero => rfl
  | succ n ih => simp only [S_succ]; rw [ih]; omega
theorem S_mul (n : Nat) (c : Int) (f : Nat → Int) : S n (fun i => c * f i) = c * S n f := by
  induction n with
  | zero => simp [S]
  | succ n ih => simp only [S_succ]; rw [ih, Int.mul_add]
theorem S_const (n : Nat) (c : Int) : S n (fun _ => c) = n * c := by
  induction n with
  | zero => simp [S]
  | succ n ih => simp only [S_succ]; rw [ih]; push_cast; rw [Int.add_mul]; omega
theorem S_zero (n : Nat) : S n (fun _ => 0) = 0 := by rw [S_const]; simp
theorem S_swap (n m : Nat) (f : Nat → Nat → Int) : S n (fun i => S m (fun j => f i j)) = S m (fun j => S n (fun i => f i j)) := by
  induction n with
  | zero => simp [S, S_zero]
  | succ n ih => simp only [S_succ]; rw [ih, ← S_add]
theorem S_nonneg {n : Nat} {f : Nat → Int} (h : ∀ i, i < n → 0 ≤ f i) : 0 ≤ S n f := by
  induction n with
  | zero => simp [S]
  | succ n ih => simp only [S_succ]; have := ih (fun i hi => h i (by omega)); have := h n (by omega); omega
theorem S_zero_all {n : Nat} {f : Nat → Int} (h : ∀ i, i < n → 0 ≤ f i) (hs : S n f = 0) : ∀ i, i < n → f i = 0 := by
  induction n with
  | zero => intro i hi; omega
  | succ n ih =>
    simp only [S_succ] at hs
    have h1 := S_nonneg (n := n) (f := f) (fun i hi => h i (by omega))
    have h2 := h n (by omega)
    intro i hi
    rcases Nat.lt_or_ge i n with h3 | h3
    · exact ih (fun i hi => h i (by omega)) (by omega) i h3
    · have : i = n := by omega
      subst this; omega
theorem S_pick {n j : Nat} (hj : j < n) (f : Nat → Int) : S n (fun i => if i = j then f i else 0) = f j := by
  induction n with
  | zero => omega
  | succ n ih =>
    simp only [S_succ]
    by_cases h : j = n
    · subst h
      rw [if_pos rfl, S_congr (g := fun _ => 0) (fun i hi => if_neg (by omega)), S_zero]; omega
    · rw [ih (by omega), if_neg (by omega)]; omega
/-- A map of 0 .. n - 1 into itself that takes no value twice moves a sum. -/
theorem S_inj_le {n : Nat} {g : Nat → Nat} (hi : ∀ i j, i < n → j < n → g i = g j → i = j) (c : Nat) : S n (fun i => if g i = c then 1 else 0) ≤ 1 ∧ ((∀ i, i < n → g i ≠ c) → S n (fun i => if g i = c then 1 else 0) = 0) := by
  induction n with
  | zero => simp [S]
  | succ n ih =>
    obtain ⟨h1, h2⟩ := ih (fun i j a b => hi i j (by omega) (by omega))
    simp only [S_succ]
    refine ⟨?_, fun h => ?_⟩
    · by_cases hc : g n = c
      · rw [if_pos hc, h2 (fun i hin hgi => by have := hi i n (by omega) (by omega) (by rw [hgi, hc]); omega)]; omega
      · rw [if_neg hc]; omega
    · rw [h2 (fun i hin => h i (by omega)), if_neg (h n (by omega))]; omega
theorem S_perm {n : Nat} {g : Nat → Nat} (hi : ∀ i j, i < n → j < n → g i = g j → i = j) (hg : ∀ i, i < n → g i < n) (f : Nat → Int) : S n (fun i => f (g i)) = S n f := by
  have hc : ∀ j, j < n → S n (fun i => if g i = j then 1 else 0) = 1 := by
    have h1 : S n (fun j => 1 - S n (fun i => if g i = j then 1 else 0)) = 0 := by
      rw [S_sub, S_swap]
      rw [S_congr (g := fun _ => 1) (n := n) (f := fun j => S n (fun i => if g j = i then 1 else 0))
        (fun i hin => by
          rw [S_congr (g := fun j => if j = g i then (fun _ => (1 : Int)) j else 0) (fun j _ => by by_cases h : j = g i <;> simp [h, eq_comm])]
          exact S_pick (hg i hin) (fun _ => 1))]
      omega
    intro j hj
    have := S_zero_all (fun j _ => by have := (S_inj_le hi j).1; omega) h1 j hj
    omega
  have e1 : S n (fun i => f (g i)) = S n (fun i => S n (fun j => (if g i = j then f j else 0))) := by
    refine S_congr fun i hin => ?_
    rw [S_congr (g := fun j => if j = g i then f j else 0) (fun j _ => by by_cases h : j = g i <;> simp [h, eq_comm])]
    exact (S_pick (hg i hin) f).symm
  rw [e1, S_swap]
  refine S_congr fun j hj => ?_
  rw [S_congr (g := fun i => f j * (if g i = j then 1 else 0)) (fun i _ => by split <;> simp), S_mul, hc j hj]
  omega
theorem S_id (n : Nat) : 2 * S n (fun i => (i : Int)) = n * (n - 1) := by
  induction n with
  | zero => simp [S]
  | succ n ih => simp only [S_succ]; push_cast; grind
theorem S_sq (n : Nat) : 6 * S n (fun i => (i : Int) * i) = n * (n - 1) * (2 * n - 1) := by
  induction n with
  | zero => simp [S]
  | succ n ih => simp only [S_succ]; push_cast; grind
theorem S_upto {n q : Nat} (h : q < n) : S n (fun j => if j ≤ q then 2 * (j : Int) else 0) = q * (q + 1) := by
  induction n with
  | zero => omega
  | succ n ih =>
    simp only [S_succ]
    by_cases hq : q = n
    · subst hq
      rw [if_pos (Nat.le_refl _), S_congr (g := fun j => 2 * (j : Int)) (fun i hi => if_pos (by omega)), S_mul, S_id]; grind
    · rw [ih (by omega), if_neg (by omega)]; omega
theorem S_from {n q : Nat} (h : q < n) (c : Int) : S n (fun i => if q < i then c else 0) = c * (n - 1 - q) := by
  induction n with
  | zero => omega
  | succ n ih =>
    simp only [S_succ]
    by_cases hq : q = n
    · subst hq
      rw [if_neg (by omega), S_congr (g := fun _ => 0) (fun i hi => if_neg (by omega)), S_zero]; push_cast; grind
    · rw [ih (by omega), if_pos (by omega)]; push_cast; grind
end Go.Proofs.Ytcaiofhdcffogaa
/- Plain: cycles of indefinite forms. -/
namespace Go.Proofs.Ytcaiofhdcffogaa
/-- A reduced form of the discriminant D. -/
structure Cyc (D : Int) (f : F3) : Prop where
  d : disc f.x f.y f.z = D
  b0 : 0 < f.y
  b1 : f.y ≤ isqrt D
  lo : isqrt D + 1 ≤ 2 * (f.x.natAbs : Int) + f.y
  hi : 2 * (f.x.natAbs : Int) ≤ isqrt D + f.y
theorem cyc_of_red {D : Int} {f : F3} (hd : disc f.x f.y f.z = D) (hD : 0 < D) (h : redInd f.x f.y f.z = true) : Cyc D f := by
  obtain ⟨r0, rlo, rhi⟩ := isqrt_root (Int.le_of_lt hD)
  simp only [redInd, decide_eq_true_eq, hd] at h
  obtain ⟨h1, h2, h3, h4⟩ := h
  refine ⟨hd, h1, ?_, ?_, ?_⟩
  · have := lt_of_sq (show 0 ≤ isqrt D + 1 by omega) (Int.lt_trans h2 rhi); omega
  · have := lt_of_sq (show 0 ≤ 2 * (f.x.natAbs : Int) + f.y by omega) (Int.lt_of_le_of_lt rlo h3); omega
  · rcases h4 with h4 | h4
    · omega
    · have := lt_of_sq (show 0 ≤ isqrt D + 1 by omega) (Int.lt_trans h4 rhi); omega
theorem red_of_cyc {D : Int} {f : F3} (hD : 0 < D) (hn : isqrt D * isqrt D ≠ D) (h : Cyc D f) : redInd f.x f.y f.z = true := by
  obtain ⟨r0, rlo, rhi⟩ := isqrt_root (Int.le_of_lt hD)
  obtain ⟨hd, b0, b1, lo, hi⟩ := h
  have hlt : isqrt D * isqrt D < D := by omega
  simp only [redInd, decide_eq_true_eq, hd]
  refine ⟨b0, Int.lt_of_le_of_lt (mul_le_self (by omega) b1) hlt, Int.lt_of_lt_of_le rhi (mul_le_self (by omega) lo), ?_⟩
  by_cases h : 2 * (f.x.natAbs : Int) < f.y
  · exact .inl h
  · exact .inr (Int.lt_of_le_of_lt (mul_le_self (by omega) (show 2 * (f.x.natAbs : Int) - f.y ≤ isqrt D by omega)) hlt)
structure CycZ (D : Int) (f : F3) : Prop where
  x0 : f.x ≠ 0
  z0 : f.z ≠ 0
  pr : 2 * (f.x.natAbs : Int) * (2 * (f.z.natAbs : Int)) = D - f.y * f.y
  lo : isqrt D + 1 ≤ 2 * (f.z.natAbs : Int) + f.y
  hi : 2 * (f.z.natAbs : Int) ≤ isqrt D + f.y
theorem cyc_z {D : Int} {f : F3} (hD : 0 < D) (hn : isqrt D * isqrt D ≠ D) (h : Cyc D f) : CycZ D f := by
  obtain ⟨r0, rlo, rhi⟩ := isqrt_root (Int.le_of_lt hD)
  obtain ⟨hd, b0, b1, lo, hi⟩ := h
  obtain ⟨x, y, z⟩ := f
  simp only at *
  have hlt : isqrt D * isqrt D < D := by omega
  have hyy := mul_le_self (show 0 ≤ y by omega) b1
  have e1 : disc x y z = y * y - 4 * (x * z) := by unfold disc; grind
  have hxz : x * z < 0 := by omega
  have x0 : x ≠ 0 := fun e => by rw [e] at hxz; simp at hxz
  have z0 : z ≠ 0 := fun e => by rw [e] at hxz; simp at hxz
  have hab : (x.natAbs : Int) * (z.natAbs : Int) = -(x * z) := by
    have := Int.natAbs_mul x z
    have h2 : ((x * z).natAbs : Int) = -(x * z) := by omega
    rw [← h2, this]; push_cast; rfl
  have pr : 2 * (x.natAbs : Int) * (2 * (z.natAbs : Int)) = D - y * y := by
    rw [show 2 * (x.natAbs : Int) * (2 * (z.natAbs : Int)) = 4 * ((x.natAbs : Int) * (z.natAbs : Int)) by grind, hab]; omega
  refine ⟨x0, z0, pr, ?_, ?_⟩
  · show isqrt D + 1 ≤ 2 * (z.natAbs : Int) + y
    refine Int.not_lt.1 fun hh => ?_
    have h1 : 2 * (z.natAbs : Int) ≤ isqrt D - y := by omega
    have := Int.mul_le_mul hi h1 (by omega) (by omega)
    rw [pr, show (isqrt D + y) * (isqrt D - y) = isqrt D * isqrt D - y * y by grind] at this
    omega
  · show 2 * (z.natAbs : Int) ≤ isqrt D + y
    refine Int.not_lt.1 fun hh => ?_
    have h1 : isqrt D + y + 1 ≤ 2 * (z.natAbs : Int) := by omega
    have h2 : isqrt D + 1 - y ≤ 2 * (x.natAbs : Int) := by omega
    have := Int.mul_le_mul h2 h1 (by omega) (by omega)
    rw [pr, show (isqrt D + 1 - y) * (isqrt D + y + 1) = (isqrt D + 1) * (isqrt D + 1) - y * y by grind] at this
    omega
def nextQ (f : F3) : F3 := nextF f.x f.y f.z
theorem nextQ_disc (f : F3) : disc (nextQ f).x (nextQ f).y (nextQ f).z = disc f.x f.y f.z := by
  have he := nextB_eq f.x f.y f.z
  have e : nextB f.x f.y f.z = 2 * f.z * nextK f.x f.y f.z - f.y := by omega
  show disc f.z (nextB f.x f.y f.z) (formAt f.x f.y f.z (-1) (nextK f.x f.y f.z)) = _
  rw [e]; unfold disc formAt; grind
theorem emod_once {a n : Int} (h1 : n ≤ a) (h2 : a < 2 * n) : a % n = a - n := by
  have h3 : (a - n) % n = a - n := Int.emod_eq_of_lt (by omega) (by omega)
  rw [← h3, Int.sub_emod_right]
theorem cyc_next {D : Int} {f : F3} (hD : 0 < D) (hn : isqrt D * isqrt D ≠ D) (h : Cyc D f) : Cyc D (nextQ f) := by
  obtain ⟨x0, z0, pr, lo', hi'⟩ := cyc_z hD hn h
  have hd2 := nextQ_disc f
  obtain ⟨hd, b0, b1, lo, hi⟩ := h
  have ey : (nextQ f).y = isqrt D - (isqrt D + f.y) % (2 * (f.z.natAbs : Int)) := by
    show nextB f.x f.y f.z = _
    unfold nextB; rw [hd]
  have ex : (nextQ f).x = f.z := rfl
  have hn0 : 0 < 2 * (f.z.natAbs : Int) := by omega
  have t0 := Int.emod_nonneg (isqrt D + f.y) (show 2 * (f.z.natAbs : Int) ≠ 0 by omega)
  have t1 := Int.emod_lt_of_pos (isqrt D + f.y) hn0
  refine ⟨by rw [hd2, hd], ?_, ?_, ?_, ?_⟩
  · rw [ey]
    rcases Int.lt_or_le (isqrt D) (2 * (f.z.natAbs : Int)) with h1 | h1
    · rw [emod_once hi' (by omega)]; omega
    · omega
  · rw [ey]; omega
  · rw [ex, ey]; omega
  · rw [ex, ey]
    rcases Int.lt_or_le (isqrt D) (2 * (f.z.natAbs : Int)) with h1 | h1
    · rw [emod_once hi' (by omega)]; omega
    · omega
theorem small_mul {n k x : Int} (hn : 0 < n) (e : x = n * k) (h1 : -n < x) (h2 : x < n) : x = 0 := by
  have hk : k = 0 := by
    rcases Int.lt_trichotomy k 0 with h | h | h
    · have := Int.mul_le_mul_of_nonneg_left (show k ≤ -1 by omega) (Int.le_of_lt hn)
      rw [Int.mul_neg, Int.mul_one] at this; omega
    · exact h
    · have := Int.mul_le_mul_of_nonneg_left (show 1 ≤ k by omega) (Int.le_of_lt hn)
      rw [Int.mul_one] at this; omega
  rw [e, hk, Int.mul_zero]
theorem cyc_eq {D : Int} {f g : F3} (hf : Cyc D f) (hg : Cyc D g) (hy : f.y = g.y) (hz : f.z = g.z) (h0 : f.z ≠ 0) : f = g := by
  have h1 := hf.d
  have h2 := hg.d
  obtain ⟨x, y, z⟩ := f
  obtain ⟨x', y', z'⟩ := g
  simp only at hy hz h0 h1 h2
  subst hy; subst hz
  unfold disc at h1 h2
  have e : x * z = x' * z := by
    have e1 : 4 * x * z = 4 * (x * z) := Int.mul_assoc _ _ _
    have e2 : 4 * x' * z = 4 * (x' * z) := Int.mul_assoc _ _ _
    omega
  have := Int.eq_of_mul_eq_mul_right h0 e
  rw [this]
theorem cyc_inj {D : Int} {f g : F3} (hD : 0 < D) (hn : isqrt D * isqrt D ≠ D) (hf : Cyc D f) (hg : Cyc D g) (h : nextQ f = nextQ g) : f = g := by
  obtain ⟨x0, z0, pr, lo', hi'⟩ := cyc_z hD hn hf
  obtain ⟨x0', z0', pr', lo2, hi2⟩ := cyc_z hD hn hg
  have ez : f.z = g.z := congrArg F3.x h
  have ey : nextB f.x f.y f.z = nextB g.x g.y g.z := congrArg F3.y h
  unfold nextB at ey
  rw [hf.d, hg.d, ez] at ey
  have hm : (isqrt D + f.y) % (2 * (g.z.natAbs : Int)) = (isqrt D + g.y) % (2 * (g.z.natAbs : Int)) := by omega
  have hm2 := Int.emod_eq_emod_iff_emod_sub_eq_zero.1 hm
  obtain ⟨k, hk⟩ := Int.dvd_of_emod_eq_zero hm2
  have hb1 := hf.b1
  have hb2 := hg.b1
  rw [ez] at lo'
  have hy : f.y - g.y = 0 := small_mul (n := 2 * (g.z.natAbs : Int)) (k := k) (by omega) (by rw [← hk]; omega) (by omega) (by omega)
  exact cyc_eq hf hg (by omega) ez z0
/-- The forms on the way. -/
def itN (f : F3) : Nat → F3
  | 0 => f
  | k + 1 => nextQ (itN f k)
theorem itN_cyc {D : Int} {f : F3} (hD : 0 < D) (hn : isqrt D * isqrt D ≠ D) (h : Cyc D f) : ∀ k, Cyc D (itN f k)
  | 0 => h
  | k + 1 => cyc_next hD hn (itN_cyc hD hn h k)
theorem itN_back {D : Int} {f : F3} (hD : 0 < D) (hn : isqrt D * isqrt D ≠ D) (h : Cyc D f) : ∀ i k, itN f i = itN f (i + k) → f = itN f k
  | 0, k, e => by rw [Nat.zero_add] at e; exact e
  | i + 1, k, e => itN_back hD hn h i k (cyc_inj hD hn (itN_cyc hD hn h i) (itN_cyc hD hn h (i + k)) (by
      have e2 : i + 1 + k = i + k + 1 := by omega
      rw [e2] at e; exact e))
theorem S_le {n : Nat} {f g : Nat → Int} (h : ∀ i, i < n → f i ≤ g i) : S n f ≤ S n g := by
  induction n with
  | zero => simp [S]
  | succ n ih =>
    have h1 := ih (fun i hi => h i (by omega))
    have h2 := h n (by omega)
    simp only [S_succ]; omega
theorem pigeon {n M : Nat} {g : Nat → Nat} (hg : ∀ i, i < n → g i < M) (hi : ∀ i j, i < n → j < n → g i = g j → i = j) : n ≤ M := by
  have h1 : S n (fun i => S M (fun c => if g i = c then 1 else 0)) = S n (fun _ => 1) := S_congr fun i hi' => by
    refine Eq.trans (S_congr fun c _ => ?_) (S_pick (hg i hi') (fun _ => 1))
    by_cases e : g i = c
    · rw [if_pos e, if_pos e.symm]
    · rw [if_neg e, if_neg (fun h => e h.symm)]
  rw [S_swap] at h1
  have h2 : S M (fun c => S n (fun i => if g i = c then 1 else 0)) ≤ S M (fun _ => 1) := S_le fun c _ => (S_inj_le hi c).1
  rw [h1, S_const, S_const] at h2
  omega
structure CycBd (f : F3) : Prop where
  x0 : -50 ≤ f.x
  x1 : f.x ≤ 50
  y0 : 0 ≤ f.y
  y1 : f.y ≤ 50
  z0 : -2000 ≤ f.z
  z1 : f.z ≤ 2000
theorem cyc_bd {D : Int} {f : F3} (hD : 0 < D) (h2 : D ≤ 2000) (hn : isqrt D * isqrt D ≠ D) (h : Cyc D f) : CycBd f := by
  obtain ⟨x0, z0, pr, lo', hi'⟩ := cyc_z hD hn h
  obtain ⟨hd, b0, b1, lo, hi⟩ := h
  have hr : isqrt D ≤ 44 := isqrt_le (Int.le_of_lt hD) (by omega) (by omega)
  have hr0 := (isqrt_root (Int.le_of_lt hD)).nn
  exact ⟨by omega, by omega, by omega, by omega, by omega, by omega⟩
theorem cyc_small {D : Int} {f : F3} (hD : 0 < D) (h2 : D ≤ 2000) (hn : isqrt D * isqrt D ≠ D) (h : Cyc D f) : Small f.x f.y f.z := by
  obtain ⟨a, b, c, d, e, g⟩ := cyc_bd hD h2 hn h
  exact ⟨by omega, by omega, by omega, by omega, by omega, by omega⟩
/-- The cycle comes round. -/
theorem cyc_round {D : Int} {f : F3} (hD : 0 < D) (h2 : D ≤ 2000) (hn : isqrt D * isqrt D ≠ D) (h : Cyc D f) : ∃ N, 1 ≤ N ∧ N ≤ 10000 ∧ itN f N = f := by
  have hc := itN_cyc hD hn h
  have key : ∃ i j, i < j ∧ j ≤ 10000 ∧ itN f i = itN f j := by
    refine Classical.byContradiction fun hno => ?_
    have hp := pigeon (n := 10001) (M := 10000) (g := fun k => ((itN f k).z + 2000).toNat / 1000000 + ((itN f k).y.toNat * 150 + ((itN f k).x + 50).toNat)) (fun i _ => by
      obtain ⟨a, b, c, d, e, g⟩ := cyc_bd hD h2 hn (hc i)
      omega) (fun i j hi hj e => by
      obtain ⟨a, b, c, d, e1, g⟩ := cyc_bd hD h2 hn (hc i)
      obtain ⟨a', b', c', d', e1', g'⟩ := cyc_bd hD h2 hn (hc j)
      have ex : (itN f i).x = (itN f j).x := by omega
      have ey : (itN f i).y = (itN f j).y := by omega
      have e3 : itN f i = itN f j := by
        have h1 := (hc i).d
        have h3 := (hc j).d
        have hx := (cyc_z hD hn (hc i)).x0
        generalize itN f i = u at *
        generalize itN f j = v at *
        obtain ⟨x, y, z⟩ := u
        obtain ⟨x', y', z'⟩ := v
        simp only at ex ey h1 h3 hx
        subst ex; subst ey
        unfold disc at h1 h3
        have e4 : x * z = x * z' := by
          have e1 : 4 * x * z = 4 * (x * z) := Int.mul_assoc _ _ _
          have e2 : 4 * x * z' = 4 * (x * z') := Int.mul_assoc _ _ _
          omega
        rw [Int.eq_of_mul_eq_mul_left hx e4]
      rcases Nat.lt_trichotomy i j with hlt | hlt | hlt
      · exact absurd ⟨i, j, hlt, by omega, e3⟩ hno
      · exact hlt
      · exact absurd ⟨j, i, hlt, by omega, e3.symm⟩ hno)
    omega
  obtain ⟨i, j, hlt, hj, e⟩ := key
  refine ⟨j - i, by omega, by omega, ?_⟩
  exact (itN_back hD hn h i (j - i) (by rw [show i + (j - i) = j by omega]; exact e)).symm
theorem least_of {P : Nat → Prop} : ∀ N, P N → ∃ n, n ≤ N ∧ P n ∧ ∀ k, k < n → ¬ P k := by
  intro N
  induction N using Nat.strongRecOn with
  | ind N ih =>
    intro h
    by_cases hk : ∃ k, k < N ∧ P k
    · obtain ⟨k, hk, hp⟩ := hk
      obtain ⟨n, h1, h2, h3⟩ := ih k hk hp
      exact ⟨n, by omega, h2, h3⟩
    · exact ⟨N, Nat.le_refl _, h, fun k hk' hp => hk ⟨k, hk', hp⟩⟩
structure Period (f : F3) (N : Nat) : Prop where
  n1 : 1 ≤ N
  n2 : N ≤ 10000
  eq : itN f N = f
  ne : ∀ k, 1 ≤ k → k < N → itN f k ≠ f
theorem cyc_period {D : Int} {f : F3} (hD : 0 < D) (h2 : D ≤ 2000) (hn : isqrt D * isqrt D ≠ D) (h : Cyc D f) : ∃ N, Period f N := by
  obtain ⟨N, h1, h3, h4⟩ := cyc_round hD h2 hn h
  obtain ⟨n, h5, ⟨h6, h7⟩, h8⟩ := least_of (P := fun k => 1 ≤ k ∧ itN f k = f) N ⟨h1, h4⟩
  exact ⟨n, h6, by omega, h7, fun k hk1 hk2 e => h8 k hk2 ⟨hk1, e⟩⟩
theorem Period.uniq {f : F3} {N M : Nat} (h : Period f N) (h' : Period f M) : N = M := by
  rcases Nat.lt_trichotomy N M with hl | hl | hl
  · exact absurd h.eq (h'.ne N h.n1 hl)
  · exact hl
  · exact absurd h'.eq (h.ne M h'.n1 hl)
/-- The numbers of the forms, one behind the other. -/
def flatF (l : List F3) : List Int := l.flatMap fun f => [f.x, f.y, f.z]
theorem flatF_len (l : List F3) : (flatF l).length = l.length * 3 := by
  induction l with
  | nil => rfl
  | cons f l ih => simp only [flatF, List.flatMap_cons, List.length_append, List.length_cons] at *; simp at *; omega
theorem flatF_snoc (l : List F3) (f : F3) : flatF (l ++ [f]) = flatF l ++ [f.x, f.y, f.z] := by simp [flatF]
def cycL (f : F3) (n : Nat) : List F3 := (List.range n).map (itN f)
theorem cycL_snoc (f : F3) (n : Nat) : cycL f (n + 1) = cycL f n ++ [itN f n] := by simp [cycL, List.range_succ]
theorem cycL_len (f : F3) (n : Nat) : (cycL f n).length = n := by simp [cycL]
end Go.Proofs.Ytcaiofhdcffogaa
/- Plain: the list of the reduced primitive forms of a discriminant. -/
namespace Go.Proofs.Ytcaiofhdcffogaa
def toldB (d : Int) : Bool := inB d (-2000) 2000 && (decide (d % 4 < 2) && (decide (d < 0) || !sqB d))
def okC (d a b : Int) : Int := (b * b - d).tdiv (4 * a)
/-- Whether a and b begin a reduced primitive form of d. -/
def okF (d a b : Int) : Bool := decide (a ≠ 0 ∧ (0 < d ∨ 0 < a)) && (decide ((b * b - d) % (4 * (a.natAbs : Int)) = 0) && (decide ((Int.gcd (Int.gcd a b : Int) (okC d a b) : Int) = 1) && redB a b (okC d a b)))
def frow (d a : Int) : Nat → List F3
  | 0 => []
  | k + 1 => frow d a k ++ if okF d a ((k : Int) - 50) = true then [⟨a, (k : Int) - 50, okC d a ((k : Int) - 50)⟩] else []
def fall (d : Int) : Nat → List F3
  | 0 => []
  | k + 1 => fall d k ++ frow d ((k : Int) - 50) 101
theorem frow_len (d a : Int) (k : Nat) : (frow d a k).length ≤ k := by
  induction k with
  | zero => simp [frow]
  | succ k ih => unfold frow; rw [List.length_append]; split <;> simp <;> omega
theorem fall_len (d : Int) (k : Nat) : (fall d k).length ≤ k * 101 := by
  induction k with
  | zero => simp [fall]
  | succ k ih => unfold fall; rw [List.length_append]; have := frow_len d ((k : Int) - 50) 101; omega
theorem frow_yes {d a : Int} {k : Nat} {b : Int} (hb : b = (k : Int) - 50) (h : okF d a b = true) : frow d a (k + 1) = frow d a k ++ [⟨a, b, okC d a b⟩] := by
  subst hb
  show frow d a k ++ (if _ then _ else _) = _
  rw [if_pos h]
theorem frow_no {d a : Int} {k : Nat} {b : Int} (hb : b = (k : Int) - 50) (h : okF d a b = false) : frow d a (k + 1) = frow d a k := by
  subst hb
  show frow d a k ++ (if _ then _ else _) = _
  rw [if_neg (by rw [h]; simp)]; simp
theorem frow_skip {d a : Int} {k j : Nat} (hkj : k ≤ j) (h : ∀ i : Nat, k ≤ i → i < j → okF d a ((i : Int) - 50) = false) : frow d a j = frow d a k := by
  induction j with
  | zero => obtain rfl : k = 0 := by omega
            rfl
  | succ j ih =>
    by_cases e : k = j + 1
    · subst e; rfl
    · rw [frow_no rfl (h j (by omega) (by omega))]
      exact ih (by omega) (fun i h1 h2 => h i h1 (by omega))
theorem fall_skip {d : Int} {k j : Nat} (hkj : k ≤ j) (h : ∀ i : Nat, k ≤ i → i < j → frow d ((i : Int) - 50) 101 = []) : fall d j = fall d k := by
  induction j with
  | zero => obtain rfl : k = 0 := by omega
            rfl
  | succ j ih =>
    by_cases e : k = j + 1
    · subst e; rfl
    · show fall d j ++ _ = _
      rw [h j (by omega) (by omega), List.append_nil]
      exact ih (by omega) (fun i h1 h2 => h i h1 (by omega))
theorem natAbs4 (a : Int) : (4 * (a.natAbs : Int)) = 4 * a ∨ (4 * (a.natAbs : Int)) = -(4 * a) := by omega
theorem dvd_abs {a n : Int} : n % (4 * (a.natAbs : Int)) = 0 ↔ (4 * a) ∣ n := by
  rw [← Int.dvd_iff_emod_eq_zero]
  rcases natAbs4 a with h | h <;> rw [h]
  exact Int.neg_dvd
/-- The discriminant tells the division. -/
theorem disc_iff {d a b : Int} (_ : a ≠ 0) : disc a b (okC d a b) = d ↔ (b * b - d) % (4 * (a.natAbs : Int)) = 0 := by
  rw [dvd_abs]
  unfold disc okC
  constructor
  · intro h; exact ⟨(b * b - d).tdiv (4 * a), by omega⟩
  · intro h
    rw [Int.mul_tdiv_cancel' h]; omega
structure OkB (d a b : Int) : Prop where
  a0 : -isqrt (d.natAbs : Int) ≤ a
  a1 : a ≤ isqrt (d.natAbs : Int)
  b0 : -isqrt (d.natAbs : Int) ≤ b
  b1 : b ≤ isqrt (d.natAbs : Int)
  an : a ≠ 0
theorem sq_le_isqrt {a d : Int} (hd : 0 ≤ d) (h : a * a ≤ d) : a ≤ isqrt d := by
  have hr := isqrt_root hd
  have := hr.nn
  have h1 : a < isqrt d + 1 := lt_of_sq (by omega) (Int.lt_of_le_of_lt h hr.hi)
  omega
theorem okF_bd {d a b : Int} (h : okF d a b = true) : OkB d a b := by
  unfold okF at h
  simp only [Bool.and_eq_true, decide_eq_true_eq] at h
  obtain ⟨⟨h1, h2⟩, h3, h4, h5⟩ := h
  have hd := (disc_iff h1).2 h3
  generalize okC d a b = c at *
  by_cases hd0 : d < 0
  · have ha : 0 < a := by omega
    unfold redB at h5
    rw [if_pos ⟨by omega, ha⟩] at h5
    simp only [redDef, decide_eq_true_eq] at h5
    obtain ⟨q1, q2, q3, q4⟩ := h5
    have e1 : b * b ≤ a * a := by
      rcases Int.le_total 0 b with hb | hb
      · exact mul_le_self hb q2
      · have := mul_le_self (x := -b) (y := a) (by omega) (by omega)
        rwa [Int.neg_mul_neg] at this
    have e2 : a * a ≤ a * c := Int.mul_le_mul_of_nonneg_left q3 (by omega)
    have e3 : 4 * a * c = 4 * (a * c) := Int.mul_assoc _ _ _
    unfold disc at hd
    have e4 := sq_nn a
    have hr : a ≤ isqrt (d.natAbs : Int) := sq_le_isqrt (by omega) (by omega)
    exact ⟨by omega, hr, by omega, by omega, h1⟩
  · have e0 : d ≠ 0 ∨ d = 0 := by omega
    unfold redB at h5
    rw [if_neg (by omega)] at h5
    by_cases hz : d = 0
    · exfalso
      simp only [redInd, decide_eq_true_eq] at h5
      have := sq_nn b
      omega
    · have hc := cyc_of_red (f := ⟨a, b, c⟩) (D := d) hd (by omega) h5
      have ed : ((d.natAbs : Nat) : Int) = d := by omega
      rw [← ed] at hc
      obtain ⟨-, y0, y1, lo, hi⟩ := hc
      simp only at y0 y1 lo hi
      exact ⟨by omega, by omega, by omega, y1, h1⟩
theorem okF_out {d a b : Int} (h : ¬ (-isqrt (d.natAbs : Int) ≤ a ∧ a ≤ isqrt (d.natAbs : Int) ∧ -isqrt (d.natAbs : Int) ≤ b ∧ b ≤ isqrt (d.natAbs : Int) ∧ a ≠ 0)) : okF d a b = false := by
  cases hx : okF d a b
  · rfl
  · obtain ⟨h1, h2, h3, h4, h5⟩ := okF_bd hx
    exact absurd ⟨h1, h2, h3, h4, h5⟩ h
theorem told_bd {d : Int} (h : toldB d = true) : -2000 ≤ d ∧ d ≤ 2000 := by
  simp [toldB, inB] at h; omega
theorem most_bd {d : Int} (h : -2000 ≤ d ∧ d ≤ 2000) : 0 ≤ isqrt (d.natAbs : Int) ∧ isqrt (d.natAbs : Int) ≤ 44 := by
  have h1 := (isqrt_root (show 0 ≤ (d.natAbs : Int) by omega)).nn
  exact ⟨h1, isqrt_le (by omega) (by omega) (by omega)⟩
/-- The row ends at the root, and begins there. -/
theorem frow_first {d a : Int} {m k : Nat} (hm : (m : Int) = isqrt (d.natAbs : Int)) (h : m ≤ 50) (hk : k = 50 - m) : frow d a k = [] := by
  subst hk
  rw [frow_skip (k := 0) (by omega)]
  · rfl
  · intro i _ h2; exact okF_out (by omega)
theorem frow_last {d a : Int} {m k : Nat} (hm : (m : Int) = isqrt (d.natAbs : Int)) (h : m ≤ 50) (hk : k = 50 + m + 1) : frow d a k = frow d a 101 := by
  subst hk
  exact (frow_skip (by omega) (fun i h1 h2 => okF_out (by omega))).symm
theorem frow_nil {d a : Int} (h : a = 0 ∨ ¬ (-isqrt (d.natAbs : Int) ≤ a ∧ a ≤ isqrt (d.natAbs : Int))) (k : Nat) : frow d a k = [] := by
  rw [frow_skip (k := 0) (by omega)]
  · rfl
  · intro i _ h2; exact okF_out (by omega)
theorem frow_neg {d a : Int} (h : ¬ (a ≠ 0 ∧ (0 < d ∨ 0 < a))) (k : Nat) : frow d a k = [] := by
  rw [frow_skip (k := 0) (by omega)]
  · rfl
  · intro i _ h2; unfold okF; rw [decide_eq_false h]; rfl
theorem fall_first {d : Int} {m k : Nat} (hm : (m : Int) = isqrt (d.natAbs : Int)) (h : m ≤ 50) (hk : k = 50 - m) : fall d k = [] := by
  subst hk
  rw [fall_skip (k := 0) (by omega)]
  · rfl
  · intro i _ h2; exact frow_nil (by omega) _
theorem fall_last {d : Int} {m k : Nat} (hm : (m : Int) = isqrt (d.natAbs : Int)) (h : m ≤ 50) (hk : k = 50 + m + 1) : fall d k = fall d 101 := by
  subst hk
  exact (fall_skip (by omega) (fun i h1 h2 => frow_nil (by omega) _)).symm
structure OkBd (d a b : Int) : Prop where
  c0 : -1200 ≤ okC d a b
  c1 : okC d a b ≤ 1200
  s0 : 0 ≤ b * b
  s1 : b * b ≤ 2500
theorem okBd {d a b : Int} (hd : -2000 ≤ d ∧ d ≤ 2000) (ha : a ≠ 0) (hb : -50 ≤ b ∧ b ≤ 50) : OkBd d a b := by
  have h1 := sq_nn b
  have h2 := (mul_bd hb.1 hb.2 hb.1 hb.2).2
  have h3 : b * b ≤ 2500 := h2
  have e1 : (okC d a b).natAbs ≤ 1200 := by
    unfold okC
    rw [Int.natAbs_tdiv]
    refine Nat.div_le_of_le_mul ?_
    have h4 : 4 ≤ (4 * a).natAbs := by omega
    have h5 := Nat.mul_le_mul_right 1200 h4
    omega
  exact ⟨by omega, by omega, h1, h3⟩
def formsRes (d : Int) : List F3 × Int := if toldB d = true then (fall d 101, 0) else ([], 2)
theorem formsRes_len (d : Int) : (formsRes d).1.length ≤ 20000 := by
  unfold formsRes
  split
  · have := fall_len d 101; simp only; omega
  · simp
/-- What is in the list is a reduced form of d. -/
theorem frow_mem {d a : Int} {f : F3} {k : Nat} (h : f ∈ frow d a k) : f.x = a ∧ okF d a f.y = true ∧ f.z = okC d a f.y := by
  induction k with
  | zero => simp [frow] at h
  | succ k ih =>
    unfold frow at h
    rw [List.mem_append] at h
    rcases h with h | h
    · exact ih h
    · split at h
      · rename_i hk
        simp at h; subst h; exact ⟨rfl, hk, rfl⟩
      · simp at h
theorem fall_mem {d : Int} {f : F3} {k : Nat} (h : f ∈ fall d k) : okF d f.x f.y = true ∧ f.z = okC d f.x f.y := by
  induction k with
  | zero => simp [fall] at h
  | succ k ih =>
    unfold fall at h
    rw [List.mem_append] at h
    rcases h with h | h
    · exact ih h
    · obtain ⟨h1, h2, h3⟩ := frow_mem h
      rw [h1]; exact ⟨h2, h3⟩
theorem fall_cyc {d : Int} {f : F3} (hd : 0 < d) (h : f ∈ fall d 101) : Cyc d f := by
  obtain ⟨h1, h2⟩ := fall_mem h
  unfold okF at h1
  simp only [Bool.and_eq_true, decide_eq_true_eq] at h1
  obtain ⟨⟨q1, q2⟩, q3, q4, q5⟩ := h1
  have hdi := (disc_iff q1).2 q3
  rw [← h2] at hdi q5
  refine cyc_of_red hdi hd ?_
  unfold redB at q5
  rwa [if_neg (by omega)] at q5
end Go.Proofs.Ytcaiofhdcffogaa
/- Plain: cycles, equivalence, class numbers. -/
namespace Go.Proofs.Ytcaiofhdcffogaa
structure CycOk (f : F3) : Prop where
  sm : Small f.x f.y f.z
  ok : NextOk f.x f.y f.z
theorem cyc_ok {D : Int} {f : F3} (hD : 0 < D) (h2 : D ≤ 2000) (hn : isqrt D * isqrt D ≠ D) (h : Cyc D f) : CycOk f := by
  have hs := cyc_small hD h2 hn h
  exact ⟨hs, next_ok hs (by rw [h.d]; exact hD) (cyc_z hD hn h).z0⟩
theorem itN_ok {D : Int} {f : F3} (hD : 0 < D) (h2 : D ≤ 2000) (hn : isqrt D * isqrt D ≠ D) (h : Cyc D f) (k : Nat) : CycOk (itN f k) := cyc_ok hD h2 hn (itN_cyc hD hn h k)
open Classical in
/-- The cycle of a form, if there is one. -/
noncomputable def cycR (f : F3) : List F3 := if h : ∃ N, Period f N then cycL f h.choose else []
theorem cycR_eq {f : F3} {N : Nat} (h : Period f N) : cycR f = cycL f N := by
  have hx : ∃ N, Period f N := ⟨N, h⟩
  unfold cycR
  rw [dif_pos hx, hx.choose_spec.uniq h]
theorem cycR_len (f : F3) : (cycR f).length ≤ 10000 := by
  unfold cycR
  split
  · rename_i h
    rw [cycL_len]; exact h.choose_spec.n2
  · simp
theorem eqF {f g : F3} : (f.x == g.x && (f.y == g.y && f.z == g.z)) = decide (f = g) := by
  obtain ⟨a, b, c⟩ := f
  obtain ⟨a', b', c'⟩ := g
  rw [Bool.eq_iff_iff]
  simp
/-- A reduced indefinite form with a small discriminant. -/
structure IsCyc (f : F3) : Prop where
  d0 : 0 < disc f.x f.y f.z
  d1 : disc f.x f.y f.z ≤ 2000
  ns : isqrt (disc f.x f.y f.z) * isqrt (disc f.x f.y f.z) ≠ disc f.x f.y f.z
  cy : Cyc (disc f.x f.y f.z) f
theorem IsCyc.period {f : F3} (h : IsCyc f) : ∃ N, Period f N := cyc_period h.d0 h.d1 h.ns h.cy
theorem IsCyc.all {f : F3} (h : IsCyc f) (k : Nat) : CycOk (itN f k) := itN_ok h.d0 h.d1 h.ns h.cy k
theorem IsCyc.it {f : F3} (h : IsCyc f) (k : Nat) : IsCyc (itN f k) := by
  have hc := itN_cyc h.d0 h.ns h.cy k
  refine ⟨?_, ?_, ?_, ?_⟩ <;> rw [hc.d]
  · exact h.d0
  · exact h.d1
  · exact h.ns
  · exact hc
theorem fall_isCyc {d : Int} {f : F3} (hd : 0 < d) (h2 : d ≤ 2000) (hn : sqB d = false) (h : f ∈ fall d 101) : IsCyc f := by
  have hc := fall_cyc hd h
  refine ⟨?_, ?_, ?_, ?_⟩ <;> rw [hc.d]
  · exact hd
  · exact h2
  · simpa [sqB] using hn
  · exact hc
/-- The first i forms: those met on their cycles, and how many cycles there are. -/
noncomputable def clsN (L : List F3) : Nat → List F3 × Int
  | 0 => ([], 0)
  | i + 1 => if L.getD i ⟨0, 0, 0⟩ ∈ (clsN L i).1 then clsN L i else ((clsN L i).1 ++ cycR (L.getD i ⟨0, 0, 0⟩), (clsN L i).2 + 1)
theorem clsN_in {L : List F3} {i : Nat} (h : L.getD i ⟨0, 0, 0⟩ ∈ (clsN L i).1) : clsN L (i + 1) = clsN L i := by
  show (if _ then _ else _) = _
  rw [if_pos h]
theorem clsN_out {L : List F3} {i : Nat} (h : ¬ L.getD i ⟨0, 0, 0⟩ ∈ (clsN L i).1) : clsN L (i + 1) = ((clsN L i).1 ++ cycR (L.getD i ⟨0, 0, 0⟩), (clsN L i).2 + 1) := by
  show (if _ then _ else _) = _
  rw [if_neg h]
theorem clsN_bd (L : List F3) (i : Nat) : 0 ≤ (clsN L i).2 ∧ (clsN L i).2 ≤ i ∧ (clsN L i).1.length ≤ i * 10000 := by
  induction i with
  | zero => simp [clsN]
  | succ i ih =>
    by_cases h : L.getD i ⟨0, 0, 0⟩ ∈ (clsN L i).1
    · rw [clsN_in h]; omega
    · rw [clsN_out h]
      have := cycR_len (L.getD i ⟨0, 0, 0⟩)
      simp only [List.length_append]
      omega
noncomputable def clsRes (d : Int) : Int × Int := if toldB d = true then (if d < 0 then (((fall d 101).length : Nat), 0) else ((clsN (fall d 101) (fall d 101).length).2, 0)) else (0, 2)
end Go.Proofs.Ytcaiofhdcffogaa
/- Plain: every discriminant that is told has a reduced primitive form. -/
namespace Go.Proofs.Ytcaiofhdcffogaa
theorem frow_in {d a b : Int} {k : Nat} (h : okF d a b = true) (hk : (b + 50).toNat < k) (hb : -50 ≤ b) : (⟨a, b, okC d a b⟩ : F3) ∈ frow d a k := by
  induction k with
  | zero => omega
  | succ k ih =>
    by_cases e : (b + 50).toNat = k
    · rw [frow_yes (b := b) (by omega) h]; simp
    · unfold frow
      rw [List.mem_append]
      exact .inl (ih (by omega))
theorem fall_in {d a b : Int} {k : Nat} (h : okF d a b = true) (hb : -50 ≤ b ∧ b ≤ 50) (hk : (a + 50).toNat < k) (ha : -50 ≤ a) : (⟨a, b, okC d a b⟩ : F3) ∈ fall d k := by
  induction k with
  | zero => omega
  | succ k ih =>
    unfold fall
    rw [List.mem_append]
    by_cases e : (a + 50).toNat = k
    · right
      have e2 : (k : Int) - 50 = a := by omega
      rw [e2]
      exact frow_in h (by omega) hb.1
    · exact .inl (ih (by omega))
theorem half_cop (b c : Int) : (Int.gcd (Int.gcd 1 b : Int) c : Int) = 1 := by
  rw [Int.one_gcd]; simp
/-- The principal form of a discriminant. -/
theorem okF_one {d : Int} (ht : toldB d = true) : ∃ b : Int, okF d 1 b = true ∧ 0 ≤ b ∧ b ≤ 50 := by
  simp only [toldB, Bool.and_eq_true, Bool.or_eq_true, decide_eq_true_eq, inB] at ht
  obtain ⟨⟨h1, h2⟩, h3, h4⟩ := ht
  by_cases hd : d < 0
  · refine ⟨d % 2, ?_, by omega, by omega⟩
    have hb : d % 2 = 0 ∨ d % 2 = 1 := by omega
    have hc : 1 ≤ okC d 1 (d % 2) := by
      unfold okC
      rcases hb with hb | hb <;> rw [hb]
      · rw [Int.tdiv_eq_ediv_of_nonneg (by omega)]; omega
      · rw [Int.tdiv_eq_ediv_of_nonneg (by omega)]; omega
    have hm : (d % 2 * (d % 2) - d) % (4 * ((1 : Int).natAbs : Int)) = 0 := by
      rcases hb with hb | hb <;> rw [hb]
      · simp; omega
      · simp; omega
    have hdi := (disc_iff (d := d) (a := 1) (b := d % 2) (by omega)).2 hm
    unfold okF
    simp only [Bool.and_eq_true, decide_eq_true_eq]
    refine ⟨⟨by omega, by omega⟩, hm, half_cop _ _, ?_⟩
    unfold redB
    rw [if_pos (by rw [hdi]; omega)]
    unfold redDef
    simp only [decide_eq_true_eq]
    omega
  · have h5 : sqB d = false := by
      rcases h4 with h4 | h4
      · omega
      · simpa using h4
    have hr := isqrt_root (show 0 ≤ d by omega)
    have hn : isqrt d * isqrt d ≠ d := by simpa [sqB] using h5
    have hlo := hr.lo
    have hhi := hr.hi
    have hnn := hr.nn
    have h44 : isqrt d ≤ 44 := isqrt_le (by omega) (by omega) (by omega)
    generalize isqrt d = r at *
    have e1 : (r + 1) * (r + 1) = r * r + 2 * r + 1 := by grind
    have hr1 : 1 ≤ r := by
      rcases Int.lt_or_le r 1 with h | h
      · obtain rfl : r = 0 := by omega
        omega
      · exact h
    have key : ∀ b : Int, 0 < b → b ≤ r → r ≤ b + 1 → (b - d) % 2 = 0 → okF d 1 b = true := by
      intro b b0 b1 b2 b3
      have hbb : b * b ≤ r * r := mul_le_self (by omega) b1
      have hm : (b * b - d) % (4 * ((1 : Int).natAbs : Int)) = 0 := by
        have hs : b * b % 4 = 0 ∧ b % 2 = 0 ∨ b * b % 4 = 1 ∧ b % 2 = 1 := by
          rcases Int.emod_two_eq b with hb | hb
          · left
            refine ⟨?_, hb⟩
            have : b = 2 * (b / 2) := by omega
            rw [this, show 2 * (b / 2) * (2 * (b / 2)) = 4 * ((b / 2) * (b / 2)) by grind]; omega
          · right
            refine ⟨?_, hb⟩
            have : b = 2 * (b / 2) + 1 := by omega
            rw [this, show (2 * (b / 2) + 1) * (2 * (b / 2) + 1) = 4 * ((b / 2) * (b / 2) + b / 2) + 1 by grind]; omega
        have e4 : (4 * ((1 : Int).natAbs : Int)) = 4 := by simp
        rw [e4]
        omega
      have hdi := (disc_iff (d := d) (a := 1) (b := b) (by omega)).2 hm
      unfold okF
      simp only [Bool.and_eq_true, decide_eq_true_eq]
      refine ⟨⟨by omega, by omega⟩, hm, half_cop _ _, ?_⟩
      unfold redB
      rw [if_neg (by rw [hdi]; omega)]
      unfold redInd
      rw [hdi]
      simp only [decide_eq_true_eq, Int.natAbs_one]
      refine ⟨b0, by omega, ?_, ?_⟩
      · have := mul_le_self (show 0 ≤ r + 1 by omega) (show r + 1 ≤ b + 2 by omega)
        have e : (2 * ((1 : Nat) : Int) + b) = b + 2 := by simp; omega
        rw [e]; omega
      · by_cases hb2 : 2 < b
        · left; simpa using hb2
        · right
          have e : (2 * ((1 : Nat) : Int) - b) = 2 - b := by simp
          rw [e]
          have : b = 1 ∨ b = 2 := by omega
          rcases this with rfl | rfl <;> omega
    by_cases hp : (r - d) % 2 = 0
    · exact ⟨r, key r (by omega) (Int.le_refl _) (by omega) hp, by omega, by omega⟩
    · have hr2 : r ≠ 1 := by
        rintro rfl
        omega
      exact ⟨r - 1, key (r - 1) (by omega) (by omega) (by omega) (by omega), by omega, by omega⟩
theorem fall_ne {d : Int} (ht : toldB d = true) : 1 ≤ (fall d 101).length := by
  obtain ⟨b, h1, h2, h3⟩ := okF_one ht
  have := List.length_pos_of_mem (fall_in (k := 101) h1 (by omega) (by omega) (by omega))
  omega
end Go.Proofs.Ytcaiofhdcffogaa
