/- Plain facts that the walks lean on, without the program: numbers, entries, forms, primes, normal pairs, cosets, cycles. No condition beyond each theorem's own. -/
/- Facts about whole numbers, no program in sight. -/
namespace Go.Proofs.YtjnkogkpdbgohaaGreatDoor
theorem mul_bd {a b A B : Int} (h1 : -A ≤ a) (h2 : a ≤ A) (h3 : -B ≤ b) (h4 : b ≤ B) : -(A * B) ≤ a * b ∧ a * b ≤ A * B := by
  have hA : 0 ≤ A := by omega
  have hB : 0 ≤ B := by omega
  have e : ∀ x y X Y : Int, 0 ≤ X → 0 ≤ Y → -X ≤ x → x ≤ X → -Y ≤ y → y ≤ Y → x * y ≤ X * Y := by
    intro x y X Y hX hY a1 a2 b1 b2
    rcases Int.le_total 0 x with h | h
    · exact Int.le_trans (Int.mul_le_mul_of_nonneg_left b2 h) (Int.mul_le_mul_of_nonneg_right a2 hY)
    · have : x * y = (-x) * (-y) := by rw [Int.neg_mul_neg]
      rw [this]
      exact Int.le_trans (Int.mul_le_mul_of_nonneg_left (show -y ≤ Y by omega) (show 0 ≤ -x by omega)) (Int.mul_le_mul_of_nonneg_right (show -x ≤ X by omega) hY)
  refine ⟨?_, e a b A B hA hB h1 h2 h3 h4⟩
  have := e (-a) b A B hA hB (by omega) (by omega) h3 h4
  rw [Int.neg_mul] at this
  omega
theorem sq_nn (a : Int) : 0 ≤ a * a := by
  rcases Int.le_total 0 a with h | h
  · exact Int.mul_nonneg h h
  · have : a * a = (-a) * (-a) := by rw [Int.neg_mul_neg]
    rw [this]; exact Int.mul_nonneg (by omega) (by omega)
def allB (n : Nat) (f : Nat → Bool) : Bool := (List.range n).all f
theorem allB_succ {n : Nat} {f : Nat → Bool} (h : allB n f = true) (h1 : f n = true) : allB (n + 1) f = true := by
  unfold allB at *; rw [List.range_succ, List.all_append, h]; simp [h1]
theorem allB_false {n k : Nat} {f : Nat → Bool} (hk : k < n) (h1 : f k = false) : allB n f = false := by
  unfold allB; rw [List.all_eq_false]; exact ⟨k, by simpa using hk, by simp [h1]⟩
def inB (n a b : Int) : Bool := decide (a ≤ n) && decide (n ≤ b)
def entB (n : Int) : Bool := inB n (-1000000000) 1000000000
theorem entB_iff {n : Int} : entB n = true ↔ -1000000000 ≤ n ∧ n ≤ 1000000000 := by simp [entB, inB]
theorem entB_no {n : Int} : entB n = false ↔ ¬ (-1000000000 ≤ n ∧ n ≤ 1000000000) := by rw [← entB_iff]; simp
def isMat (a b c d : Int) : Bool := entB a && (entB b && (entB c && (entB d && a * d - b * c == 1)))
structure IsMat (a b c d : Int) : Prop where
  a0 : -1000000000 ≤ a
  a1 : a ≤ 1000000000
  b0 : -1000000000 ≤ b
  b1 : b ≤ 1000000000
  c0 : -1000000000 ≤ c
  c1 : c ≤ 1000000000
  d0 : -1000000000 ≤ d
  d1 : d ≤ 1000000000
  det : a * d - b * c = 1
theorem isMat_iff {a b c d : Int} : isMat a b c d = true ↔ IsMat a b c d := by
  simp only [isMat, Bool.and_eq_true, entB_iff, beq_iff_eq]
  exact ⟨fun ⟨⟨h1, h2⟩, ⟨h3, h4⟩, ⟨h5, h6⟩, ⟨h7, h8⟩, h9⟩ => ⟨h1, h2, h3, h4, h5, h6, h7, h8, h9⟩, fun h => ⟨⟨h.a0, h.a1⟩, ⟨h.b0, h.b1⟩, ⟨h.c0, h.c1⟩, ⟨h.d0, h.d1⟩, h.det⟩⟩
def kindOf (a b c d : Int) : Int := if b = 0 ∧ c = 0 then 0 else if (a + d).natAbs < 2 then 1 else if (a + d).natAbs = 2 then 2 else 3
theorem diag {a b c d : Int} (h : a * d - b * c = 1) (hb : b = 0) (hc : c = 0) : (a = 1 ∧ d = 1) ∨ (a = -1 ∧ d = -1) := by
  subst hb; subst hc
  have h1 : a * d = 1 := by simpa using h
  have h2 := congrArg Int.natAbs h1
  rw [Int.natAbs_mul] at h2
  obtain ⟨h3, h4⟩ : a.natAbs = 1 ∧ d.natAbs = 1 := ⟨Nat.eq_one_of_mul_eq_one_left (by rw [Nat.mul_comm]; exact h2), Nat.eq_one_of_mul_eq_one_left h2⟩
  rcases (show a = 1 ∨ a = -1 by omega) with h5 | h5
  · subst h5; left; exact ⟨rfl, by simpa using h1⟩
  · subst h5; right; exact ⟨rfl, by omega⟩
def isForm (a b c : Int) : Bool := inB a (-1000000) 1000000 && (inB b (-1000000) 1000000 && (inB c (-1000000) 1000000 && !(a == 0 && (b == 0 && c == 0))))
structure Small (a b c : Int) : Prop where
  a0 : -1000000 ≤ a
  a1 : a ≤ 1000000
  b0 : -1000000 ≤ b
  b1 : b ≤ 1000000
  c0 : -1000000 ≤ c
  c1 : c ≤ 1000000
theorem small_of {a b c : Int} (h : isForm a b c = true) : Small a b c := by
  simp [isForm, inB] at h
  exact ⟨by omega, by omega, by omega, by omega, by omega, by omega⟩
def formAt (a b c x y : Int) : Int := a * x * x + b * x * y + c * y * y
def formMid (a b c p q r s : Int) : Int := 2 * a * p * q + b * (p * s + q * r) + 2 * c * r * s
def smallB (a b c : Int) : Bool := inB a (-1000000) 1000000 && (inB b (-1000000) 1000000 && inB c (-1000000) 1000000)
end Go.Proofs.YtjnkogkpdbgohaaGreatDoor
namespace Go.Proofs.YtjnkogkpdbgohaaGreatDoor
def smallM (p q r s : Int) : Bool := inB p (-1000) 1000 && (inB q (-1000) 1000 && (inB r (-1000) 1000 && inB s (-1000) 1000))
theorem smallM_iff {p q r s : Int} : smallM p q r s = true ↔ (-1000 ≤ p ∧ p ≤ 1000) ∧ (-1000 ≤ q ∧ q ≤ 1000) ∧ (-1000 ≤ r ∧ r ≤ 1000) ∧ (-1000 ≤ s ∧ s ≤ 1000) := by simp [smallM, inB]
theorem smallM_no {p q r s : Int} : smallM p q r s = false ↔ ¬ ((-1000 ≤ p ∧ p ≤ 1000) ∧ (-1000 ≤ q ∧ q ≤ 1000) ∧ (-1000 ≤ r ∧ r ≤ 1000) ∧ (-1000 ≤ s ∧ s ≤ 1000)) := by rw [← smallM_iff]; simp
end Go.Proofs.YtjnkogkpdbgohaaGreatDoor
namespace Go.Proofs.YtjnkogkpdbgohaaGreatDoor
def discOf (a b c : Int) : Int × Int := if isForm a b c = true then (b * b - 4 * a * c, 0) else (0, 1)
theorem discOf_no {a b c : Int} (h : isForm a b c = false) : discOf a b c = (0, 1) := by simp [discOf, h]
theorem discOf_yes {a b c : Int} (h : isForm a b c = true) : discOf a b c = (b * b - 4 * a * c, 0) := by simp [discOf, h]
end Go.Proofs.YtjnkogkpdbgohaaGreatDoor
namespace Go.Proofs.YtjnkogkpdbgohaaGreatDoor
def valAt (a b c x y : Int) : Int × Int := if isForm a b c = true then (if inB x (-1000) 1000 = true then (if inB y (-1000) 1000 = true then (formAt a b c x y, 0) else (0, 2)) else (0, 2)) else (0, 1)
theorem inB_iff {n a b : Int} : inB n a b = true ↔ a ≤ n ∧ n ≤ b := by simp [inB]
theorem inB_no {n a b : Int} : inB n a b = false ↔ ¬ (a ≤ n ∧ n ≤ b) := by rw [← inB_iff]; simp
/-- What 'applied' and 'l05Code' say. -/
def appliedCode (a b c p q r s : Int) : Int := if isForm a b c = true then (if isMat p q r s = true then (if smallM p q r s = true then 0 else 2) else 1) else 1
structure F3 where
  x : Int
  y : Int
  z : Int
  deriving DecidableEq
def madeForm (a b c p q r s : Int) : F3 := ⟨formAt a b c p r, formMid a b c p q r s, formAt a b c q s⟩
def applyM (a b c p q r s : Int) : F3 × Int :=
  if appliedCode a b c p q r s = 0 then (if smallB (madeForm a b c p q r s).x (madeForm a b c p q r s).y (madeForm a b c p q r s).z = true then (madeForm a b c p q r s, 0) else (⟨0, 0, 0⟩, 3)) else (⟨0, 0, 0⟩, appliedCode a b c p q r s)
def keepsF (a b c p q r s : Int) : Bool × Int :=
  if appliedCode a b c p q r s = 0 then ((formAt a b c p r == a && (formMid a b c p q r s == b && formAt a b c q s == c)), 0) else (false, appliedCode a b c p q r s)
end Go.Proofs.YtjnkogkpdbgohaaGreatDoor
/- Plain facts on made forms. -/
namespace Go.Proofs.YtjnkogkpdbgohaaGreatDoor
theorem made_bd {a b c p q r s : Int} (h : Small a b c) (hs : smallM p q r s = true) :
    (-9000000000000000000 ≤ formAt a b c p r ∧ formAt a b c p r ≤ 9000000000000000000) ∧ (-9000000000000000000 ≤ formMid a b c p q r s ∧ formMid a b c p q r s ≤ 9000000000000000000) ∧ (-9000000000000000000 ≤ formAt a b c q s ∧ formAt a b c q s ≤ 9000000000000000000) := by
  obtain ⟨a0, a1, b0, b1, c0, c1⟩ := h
  obtain ⟨⟨p0, p1⟩, ⟨q0, q1⟩, ⟨r0, r1⟩, s0, s1⟩ := smallM_iff.1 hs
  have at_ : ∀ x y : Int, -1000 ≤ x → x ≤ 1000 → -1000 ≤ y → y ≤ 1000 → -9000000000000000000 ≤ formAt a b c x y ∧ formAt a b c x y ≤ 9000000000000000000 := by
    intro x y x0 x1 y0 y1
    have e1 := mul_bd a0 a1 x0 x1
    have e2 := mul_bd e1.1 e1.2 x0 x1
    have e3 := mul_bd b0 b1 x0 x1
    have e4 := mul_bd e3.1 e3.2 y0 y1
    have e5 := mul_bd c0 c1 y0 y1
    have e6 := mul_bd e5.1 e5.2 y0 y1
    unfold formAt
    omega
  refine ⟨at_ p r p0 p1 r0 r1, ?_, at_ q s q0 q1 s0 s1⟩
  have e1 := mul_bd (a := 2 * a) (b := p) (A := 2000000) (B := 1000) (by omega) (by omega) p0 p1
  have e2 := mul_bd e1.1 e1.2 q0 q1
  have e3 := mul_bd p0 p1 s0 s1
  have e4 := mul_bd q0 q1 r0 r1
  have e5 := mul_bd (a := b) (b := p * s + q * r) (A := 1000000) (B := 2000000) b0 b1 (by omega) (by omega)
  have e6 := mul_bd (a := 2 * c) (b := r) (A := 2000000) (B := 1000) (by omega) (by omega) r0 r1
  have e7 := mul_bd e6.1 e6.2 s0 s1
  unfold formMid
  omega
/-- A matrix with the determinant 1 makes no form 0. -/
theorem made_ne {a b c p q r s : Int} (h : isForm a b c = true) (hd : p * s - q * r = 1) : ¬ (formAt a b c p r = 0 ∧ formMid a b c p q r s = 0 ∧ formAt a b c q s = 0) := by
  rintro ⟨h1, h2, h3⟩
  have ha : a = formAt a b c p r * s * s - formMid a b c p q r s * s * r + formAt a b c q s * r * r := by
    have : a = a * ((p * s - q * r) * (p * s - q * r)) := by rw [hd]; simp
    unfold formAt formMid
    grind
  have hc : c = formAt a b c p r * q * q - formMid a b c p q r s * p * q + formAt a b c q s * p * p := by
    have : c = c * ((p * s - q * r) * (p * s - q * r)) := by rw [hd]; simp
    unfold formAt formMid
    grind
  have hb : b = -2 * formAt a b c p r * q * s + formMid a b c p q r s * (p * s + q * r) - 2 * formAt a b c q s * p * r := by
    have : b = b * ((p * s - q * r) * (p * s - q * r)) := by rw [hd]; simp
    unfold formAt formMid
    grind
  rw [h1, h2, h3] at ha hb hc
  simp at ha hb hc
  subst ha; subst hb; subst hc
  simp [isForm] at h
theorem small_form {a b c : Int} (h : ¬ (a = 0 ∧ b = 0 ∧ c = 0)) : isForm a b c = smallB a b c := by
  rw [Bool.eq_iff_iff]
  simp [isForm, smallB, inB]
  omega
theorem appliedCode_0 {a b c p q r s : Int} (h : appliedCode a b c p q r s = 0) : isForm a b c = true ∧ isMat p q r s = true ∧ smallM p q r s = true := by
  unfold appliedCode at h
  split at h
  · split at h
    · split at h
      · exact ⟨‹_›, ‹_›, ‹_›⟩
      · omega
    · omega
  · omega
theorem appliedCode_yes {a b c p q r s : Int} (h1 : isForm a b c = true) (h2 : isMat p q r s = true) (h3 : smallM p q r s = true) : appliedCode a b c p q r s = 0 := by simp [appliedCode, h1, h2, h3]
end Go.Proofs.YtjnkogkpdbgohaaGreatDoor
namespace Go.Proofs.YtjnkogkpdbgohaaGreatDoor
/-- What an int64 holds. -/
def I64 (x : Int) : Prop := -9223372036854775808 ≤ x ∧ x ≤ 9223372036854775807
end Go.Proofs.YtjnkogkpdbgohaaGreatDoor
/- Plain facts: rests, quotients rounded down, greatest common divisors. -/
namespace Go.Proofs.YtjnkogkpdbgohaaGreatDoor
theorem tmod_bd {a n : Int} (hn : 0 < n) : -n < a.tmod n ∧ a.tmod n < n := by
  have h1 := Int.natAbs_tmod a n
  have h2 : a.natAbs % n.natAbs < n.natAbs := Nat.mod_lt _ (by omega)
  omega
theorem rest_eq {a n : Int} (hn : 0 < n) : (a.tmod n + n).tmod n = a % n := by
  have h := @tmod_bd a n hn
  rw [Int.tmod_eq_emod_of_nonneg (by omega), Int.add_emod_right, Int.tmod_eq_emod]
  split
  · simp
  · rw [Int.sub_emod, Int.emod_emod_of_dvd _ (Int.dvd_refl n)]
    have : (n.natAbs : Int) = n := by omega
    rw [this, Int.emod_self]; simp
theorem rest_eq' {a n : Int} (hn : 0 < n) : (a.tmod n + n) % n = a % n := by
  have h := @tmod_bd a n hn
  have h2 := @rest_eq a n hn
  rw [Int.tmod_eq_emod_of_nonneg (by omega)] at h2
  exact h2
theorem ediv_bd {a b K : Int} (hb : 0 < b) (h1 : -K ≤ a) (h2 : a ≤ K) : -K ≤ a / b ∧ a / b ≤ K := by
  rcases Int.le_total 0 a with h | h
  · have := Int.ediv_nonneg h (Int.le_of_lt hb)
    have := Int.ediv_le_self b h
    omega
  · have h3 : a ≤ a / b := (Int.le_ediv_iff_mul_le hb).2 (by
      have := Int.mul_le_mul_of_nonpos_left h (show (1 : Int) ≤ b by omega)
      omega)
    have h4 : a / b ≤ 0 := Int.ediv_nonpos_of_nonpos_of_neg h (by omega)
    omega
theorem floor_t {a b : Int} (hb : 0 < b) (h : a.tmod b ≠ 0) (ha : a < 0) : a.tdiv b - 1 = a / b := by
  rw [Int.tdiv_eq_ediv]
  have : ¬ (0 ≤ a ∨ b ∣ a) := by
    rintro (h1 | h1)
    · omega
    · exact h (Int.tmod_eq_zero_of_dvd h1)
  rw [if_neg this, Int.sign_eq_one_of_pos hb]; omega
theorem floor_z {a b : Int} (h : a.tmod b = 0) : a.tdiv b = a / b := by
  rw [Int.tdiv_eq_ediv, if_pos (.inr (Int.dvd_of_tmod_eq_zero h))]; omega
theorem floor_p {a b : Int} (h : 0 ≤ a) : a.tdiv b = a / b := Int.tdiv_eq_ediv_of_nonneg h
theorem gcd_step {p q : Int} (_hq : q ≠ 0) : Int.gcd q (p.tmod q) = Int.gcd p q := by
  show Nat.gcd q.natAbs (p.tmod q).natAbs = Nat.gcd p.natAbs q.natAbs
  rw [Int.natAbs_tmod, Nat.gcd_comm p.natAbs, Nat.gcd_rec q.natAbs p.natAbs, Nat.gcd_comm]
theorem tmod_lt {p q : Int} (hq : q ≠ 0) : (p.tmod q).natAbs < q.natAbs := by
  rw [Int.natAbs_tmod]; exact Nat.mod_lt _ (by omega)
theorem gcd_zero' {p q : Int} (hq : q = 0) : (Int.gcd p q : Int) = p.natAbs := by subst hq; simp
theorem tmod_small {p q K : Int} (hq : q ≠ 0) (h1 : -K ≤ q) (h2 : q ≤ K) : -K ≤ p.tmod q ∧ p.tmod q ≤ K := by
  have := @tmod_lt p q hq
  omega
end Go.Proofs.YtjnkogkpdbgohaaGreatDoor
/- Plain facts: the form of a matrix. -/
namespace Go.Proofs.YtjnkogkpdbgohaaGreatDoor
theorem tdiv_bd {a b K : Int} (h1 : -K ≤ a) (h2 : a ≤ K) : -K ≤ a.tdiv b ∧ a.tdiv b ≤ K := by
  have h3 : (a.tdiv b).natAbs = a.natAbs / b.natAbs := by rw [Int.natAbs_tdiv]; rfl
  have h4 : a.natAbs / b.natAbs ≤ a.natAbs := Nat.div_le_self _ _
  omega
def formGcd (a b c d : Int) : Int := (Int.gcd (Int.gcd c (d - a)) (-b) : Int)
/-- What FormOfMatrix says of a matrix that is one. -/
def formOfM (a b c d : Int) : F3 × Int :=
  if kindOf a b c d = 0 then (⟨0, 0, 0⟩, 5) else
  if smallB (c.tdiv (formGcd a b c d)) ((d - a).tdiv (formGcd a b c d)) (-(b.tdiv (formGcd a b c d))) = true then (⟨c.tdiv (formGcd a b c d), (d - a).tdiv (formGcd a b c d), -(b.tdiv (formGcd a b c d))⟩, 0) else (⟨0, 0, 0⟩, 3)
theorem kind_ne {a b c d : Int} (h : kindOf a b c d ≠ 0) : ¬ (b = 0 ∧ c = 0) := fun hh => h (by unfold kindOf; rw [if_pos hh])
theorem kind_0 {a b c d : Int} (h : kindOf a b c d = 0) : b = 0 ∧ c = 0 := by
  unfold kindOf at h
  split at h
  · assumption
  · split at h
    · omega
    · split at h <;> omega
theorem formGcd_dvd (a b c d : Int) : formGcd a b c d ∣ c ∧ formGcd a b c d ∣ d - a ∧ formGcd a b c d ∣ -b := by
  unfold formGcd
  refine ⟨Int.dvd_trans (Int.gcd_dvd_left _ _) (Int.gcd_dvd_left _ _), Int.dvd_trans (Int.gcd_dvd_left _ _) (Int.gcd_dvd_right _ _), Int.gcd_dvd_right _ _⟩
theorem formGcd_pos {a b c d : Int} (h : ¬ (b = 0 ∧ c = 0)) : 1 ≤ formGcd a b c d := by
  have h0 : 0 ≤ formGcd a b c d := by unfold formGcd; omega
  have h1 : formGcd a b c d ≠ 0 := by
    intro e
    obtain ⟨d1, _, d3⟩ := formGcd_dvd a b c d
    rw [e] at d1 d3
    have := Int.zero_dvd.1 d1
    have := Int.zero_dvd.1 d3
    exact h ⟨by omega, by omega⟩
  omega
theorem formGcd_le {a b c d : Int} (h : IsMat a b c d) (hn : ¬ (b = 0 ∧ c = 0)) : formGcd a b c d ≤ 1000000000 := by
  obtain ⟨d1, _, d3⟩ := formGcd_dvd a b c d
  obtain ⟨_, _, b0, b1, c0, c1, _⟩ := h
  by_cases hb : b = 0
  · have hc : c ≠ 0 := fun e => hn ⟨hb, e⟩
    rcases Int.lt_or_gt_of_ne hc with h1 | h1
    · have := Int.le_of_dvd (show 0 < -c by omega) (Int.dvd_neg.2 d1); omega
    · have := Int.le_of_dvd h1 d1; omega
  · rcases Int.lt_or_gt_of_ne hb with h1 | h1
    · have := Int.le_of_dvd (show 0 < -b by omega) d3; omega
    · have := Int.le_of_dvd h1 (Int.dvd_neg.1 d3); omega
theorem formOf_ne {a b c d : Int} (h : ¬ (b = 0 ∧ c = 0)) : ¬ (c.tdiv (formGcd a b c d) = 0 ∧ (d - a).tdiv (formGcd a b c d) = 0 ∧ -(b.tdiv (formGcd a b c d)) = 0) := by
  rintro ⟨h1, _, h3⟩
  rw [← Int.neg_tdiv] at h3
  obtain ⟨d1, _, d3⟩ := formGcd_dvd a b c d
  have e1 := Int.mul_tdiv_cancel' d1
  have e3 := Int.mul_tdiv_cancel' d3
  rw [h1] at e1
  rw [h3] at e3
  exact h ⟨by omega, by omega⟩
end Go.Proofs.YtjnkogkpdbgohaaGreatDoor
namespace Go.Proofs.YtjnkogkpdbgohaaGreatDoor
def formOfMat (a b c d : Int) : F3 × Int := if isMat a b c d = true then formOfM a b c d else (⟨0, 0, 0⟩, 1)
end Go.Proofs.YtjnkogkpdbgohaaGreatDoor
/- Plain: prime divisors by trial division. -/
namespace Go.Proofs.YtjnkogkpdbgohaaGreatDoor
/-- m is n with all factors p taken out. -/
inductive Strip (p : Nat) : Nat → Nat → Prop
  | stop {n : Nat} : n % p ≠ 0 → Strip p n n
  | go {n m : Nat} : n % p = 0 → Strip p (n / p) m → Strip p n m
theorem Strip.not {p n m : Nat} (h : Strip p n m) : m % p ≠ 0 := by
  induction h with
  | stop h => exact h
  | go _ _ ih => exact ih
theorem Strip.dvd {p n m : Nat} (h : Strip p n m) : m ∣ n := by
  induction h with
  | stop h => exact Nat.dvd_refl _
  | go h _ ih => exact Nat.dvd_trans ih (Nat.div_dvd_of_dvd (Nat.dvd_of_mod_eq_zero h))
theorem Strip.pos {p n m : Nat} (h : Strip p n m) (hn : 0 < n) : 0 < m ∧ m ≤ n := by
  have hd := h.dvd
  exact ⟨Nat.pos_of_dvd_of_pos hd hn, Nat.le_of_dvd hn hd⟩
theorem Strip.uniq {p n m m' : Nat} (h : Strip p n m) (h' : Strip p n m') : m = m' := by
  induction h with
  | stop h => cases h' with
    | stop _ => rfl
    | go h1 _ => exact absurd h1 h
  | go h _ ih => cases h' with
    | stop h1 => exact absurd h h1
    | go _ h2 => exact ih h2
def stripF (p : Nat) : Nat → Nat → Nat
  | 0, n => n
  | f + 1, n => if n % p = 0 then stripF p f (n / p) else n
theorem stripF_ok {p : Nat} (hp : 2 ≤ p) : ∀ f n, 0 < n → n ≤ f → Strip p n (stripF p f n)
  | 0, n, h0, h1 => by omega
  | f + 1, n, h0, h1 => by
    unfold stripF
    split
    · rename_i h
      have hq : n / p * p = n := Nat.div_mul_cancel (Nat.dvd_of_mod_eq_zero h)
      have hlt : n / p < n := Nat.div_lt_self h0 (by omega)
      exact .go h (stripF_ok hp f _ (Nat.pos_of_ne_zero fun e => by rw [e] at hq; omega) (by omega))
    · rename_i h; exact .stop h
/-- The list of the prime divisors of n, if none is less than p. -/
inductive PF : Nat → Nat → List Nat → Prop
  | done {n p : Nat} : n ≤ 1 → PF n p []
  | skip {n p : Nat} {l : List Nat} : 1 < n → n % p ≠ 0 → PF n (p + 1) l → PF n p l
  | take {n p m : Nat} {l : List Nat} : 1 < n → n % p = 0 → Strip p n m → PF m (p + 1) l → PF n p (p :: l)
def NoDiv (n p : Nat) : Prop := ∀ d, 2 ≤ d → d < p → n % d ≠ 0
theorem NoDiv.le {n p : Nat} (h : NoDiv n p) (hn : 1 < n) : p ≤ n := by
  refine Nat.le_of_not_lt fun hlt => h n (by omega) hlt (Nat.mod_self n)
theorem NoDiv.skip {n p : Nat} (h : NoDiv n p) (hp : n % p ≠ 0) : NoDiv n (p + 1) := fun d h2 hd => by
  rcases Nat.lt_or_ge d p with h1 | h1
  · exact h d h2 h1
  · obtain rfl : d = p := by omega
    exact hp
theorem NoDiv.strip {n p m : Nat} (h : NoDiv n p) (hs : Strip p n m) : NoDiv m (p + 1) := fun d h2 hd => by
  rcases Nat.lt_or_ge d p with h1 | h1
  · intro e
    exact h d h2 h1 (Nat.mod_eq_zero_of_dvd (Nat.dvd_trans (Nat.dvd_of_mod_eq_zero e) hs.dvd))
  · obtain rfl : d = p := by omega
    exact hs.not
theorem NoDiv.two (n : Nat) : NoDiv n 2 := fun d h2 hd => by omega
/-- Without a divisor up to its root a number has none. -/
theorem NoDiv.prime {n p : Nat} (h : NoDiv n p) (h2 : n < p * p) : ∀ d, 2 ≤ d → d < n → n % d ≠ 0 := fun d hd hl e => by
  obtain ⟨q, hq⟩ := Nat.dvd_of_mod_eq_zero e
  rcases Nat.lt_or_ge d p with h1 | h1
  · exact h d hd h1 e
  · have h3 : q < p := by
      refine Nat.lt_of_not_le fun hle => ?_
      have := Nat.mul_le_mul h1 hle
      omega
    have h4 : 2 ≤ q := by
      refine Nat.le_of_not_lt fun hlt => ?_
      have : q = 0 ∨ q = 1 := by omega
      rcases this with h5 | h5 <;> rw [h5] at hq <;> omega
    exact h q h4 h3 (Nat.mod_eq_zero_of_dvd ⟨d, by rw [hq, Nat.mul_comm]⟩)
theorem PF.jump {n : Nat} (hn : 1 < n) : ∀ (k p : Nat) (l : List Nat), p + k = n → (∀ d, p ≤ d → d < n → n % d ≠ 0) → PF n p l → PF n n l
  | 0, p, l, h, _, hp => by obtain rfl : p = n := by omega
                            exact hp
  | k + 1, p, l, h, hd, hp => by
    have hne := hd p (Nat.le_refl _) (by omega)
    cases hp with
    | done h1 => omega
    | skip _ _ h3 => exact PF.jump hn k (p + 1) l (by omega) (fun d h1 h2 => hd d (by omega) h2) h3
    | take _ h2 => exact absurd h2 hne
theorem PF.jumped {n p : Nat} {l : List Nat} (hn : 1 < n) (hp2 : 2 ≤ p) (h : NoDiv n p) (h2 : n < p * p) (hp : PF n p l) : PF n n l :=
  PF.jump hn (n - p) p l (by have := h.le hn; omega) (fun d h1 h3 => h.prime h2 d (by omega) h3) hp
theorem PF.back {n : Nat} (hn : 1 < n) : ∀ (k p : Nat) (l : List Nat), p + k = n → (∀ d, p ≤ d → d < n → n % d ≠ 0) → PF n n l → PF n p l
  | 0, p, l, h, _, hp => by obtain rfl : p = n := by omega
                            exact hp
  | k + 1, p, l, h, hd, hp => .skip hn (hd p (Nat.le_refl _) (by omega)) (PF.back hn k (p + 1) l (by omega) (fun d h1 h2 => hd d (by omega) h2) hp)
theorem strip_self {n : Nat} (hn : 1 < n) : Strip n n 1 := by
  refine .go (Nat.mod_self n) ?_
  rw [Nat.div_self (by omega)]
  exact .stop (by rw [Nat.mod_eq_of_lt hn]; omega)
theorem PF.self {n : Nat} (hn : 1 < n) : PF n n [n] := .take hn (Nat.mod_self n) (strip_self hn) (.done (Nat.le_refl _))
theorem PF.uniq {n p : Nat} {l l' : List Nat} (h : PF n p l) (h' : PF n p l') : l = l' := by
  induction h generalizing l' with
  | done h => cases h' with
    | done _ => rfl
    | skip h1 => omega
    | take h1 => omega
  | skip h1 h2 _ ih => cases h' with
    | done h => omega
    | skip _ _ h3 => exact ih h3
    | take _ h4 => exact absurd h4 h2
  | take h1 h2 h3 _ ih => cases h' with
    | done h => omega
    | skip _ h4 => exact absurd h2 h4
    | take _ _ h5 h6 =>
      obtain rfl := h3.uniq h5
      rw [ih h6]
def pfI : Nat → Nat → Nat → List Nat
  | 0, n, _ => if n ≤ 1 then [] else [n]
  | f + 1, n, p => if n ≤ 1 then [] else if n < p * p then [n] else if n % p = 0 then p :: pfI f (stripF p n n) (p + 1) else pfI f n (p + 1)
theorem pfI_ok : ∀ (f n p : Nat), 0 < n → 2 ≤ p → NoDiv n p → n < (p + f) * (p + f) → PF n p (pfI f n p)
  | 0, n, p, h0, h2, hd, hl => by
    unfold pfI
    split
    · rename_i h; exact .done h
    · rename_i h
      have hn : 1 < n := by omega
      exact PF.back hn (n - p) p _ (by have := hd.le hn; omega) (fun d h1 h3 => hd.prime (by simpa using hl) d (by omega) h3) (PF.self hn)
  | f + 1, n, p, h0, h2, hd, hl => by
    unfold pfI
    split
    · rename_i h; exact .done h
    · rename_i h
      have hn : 1 < n := by omega
      split
      · rename_i hpp
        exact PF.back hn (n - p) p _ (by have := hd.le hn; omega) (fun d h1 h3 => hd.prime hpp d (by omega) h3) (PF.self hn)
      · have he : p + (f + 1) = p + 1 + f := by omega
        rw [he] at hl
        split
        · rename_i hm
          have hs := stripF_ok h2 n n h0 (Nat.le_refl _)
          exact .take hn hm hs (pfI_ok f _ _ (hs.pos h0).1 (by omega) (hd.strip hs) (Nat.lt_of_le_of_lt (hs.pos h0).2 hl))
        · rename_i hm
          exact .skip hn hm (pfI_ok f _ _ h0 (by omega) (hd.skip hm) hl)
/-- The prime divisors of a number up to 1000. -/
def primesL (n : Nat) : List Nat := pfI 32 n 2
theorem primesL_ok {n : Nat} (h0 : 0 < n) (h1 : n ≤ 1000) : PF n 2 (primesL n) := pfI_ok 32 n 2 h0 (Nat.le_refl _) (NoDiv.two n) (by omega)
/-! ### What is counted with them -/
def fTimes (g : Nat → Nat → Nat) : Nat → List Nat → Nat
  | out, [] => out
  | out, p :: l => fTimes g (g out p) l
def gIdx (out p : Nat) : Nat := out / p * (p + 1)
def gMod (out p : Nat) : Nat := out / (p * p) * (p * p - 1)
def gPhi (out p : Nat) : Nat := out / p * (p - 1)
/-- All numbers on the way are small. -/
def chk (g : Nat → Nat → Nat) (B : Nat) : Nat → List Nat → Bool
  | out, [] => decide (out ≤ B)
  | out, p :: l => decide (out ≤ B) && (decide (1 ≤ p) && (decide (p ≤ 1000) && chk g B (g out p) l))
theorem chk_le {g : Nat → Nat → Nat} {B out : Nat} {l : List Nat} (h : chk g B out l = true) : out ≤ B := by
  cases l <;> simp [chk] at h <;> omega
structure ChkStep (g : Nat → Nat → Nat) (B out p : Nat) (l : List Nat) : Prop where
  o : out ≤ B
  p1 : 1 ≤ p
  p2 : p ≤ 1000
  next : chk g B (g out p) l = true
  n : g out p ≤ B
theorem chk_step {g : Nat → Nat → Nat} {B out p : Nat} {l : List Nat} (h : chk g B out (p :: l) = true) : ChkStep g B out p l := by
  simp only [chk, Bool.and_eq_true, decide_eq_true_eq] at h
  exact ⟨h.1, h.2.1, h.2.2.1, h.2.2.2, chk_le h.2.2.2⟩
def idxOk (n : Nat) : Bool := chk gIdx 1000000 n (primesL n) && (chk gMod 1000000000 (n * n * n) (primesL n) && (chk gMod 1000000000 (n * n) (primesL n) && decide (fTimes gMod (n * n * n) (primesL n) / n = fTimes gMod (n * n) (primesL n))))
set_option maxRecDepth 100000 in
theorem idxOk_all : (List.range 1000).all (fun n => idxOk (n + 1)) = true := by decide +kernel
theorem idxOk_of {n : Nat} (h0 : 0 < n) (h1 : n ≤ 1000) : idxOk n = true := by
  have := List.all_eq_true.1 idxOk_all (n - 1) (by simp; omega)
  rwa [show n - 1 + 1 = n by omega] at this
/-- How many up to n have no common divisor with m. -/
def phiC (m : Nat) : Nat → Nat
  | 0 => 0
  | k + 1 => phiC m k + if Nat.gcd (k + 1) m = 1 then 1 else 0
def phiOk (m : Nat) : Bool := chk gPhi 1000 m (primesL m) && decide (fTimes gPhi m (primesL m) = phiC m m)
set_option maxRecDepth 100000 in
theorem phiOk_all : (List.range 40).all (fun n => phiOk (n + 1)) = true := by decide +kernel
theorem phiOk_of {n : Nat} (h0 : 0 < n) (h1 : n ≤ 40) : phiOk n = true := by
  have := List.all_eq_true.1 phiOk_all (n - 1) (by simp; omega)
  rwa [show n - 1 + 1 = n by omega] at this
end Go.Proofs.YtjnkogkpdbgohaaGreatDoor
/- Plain: totients up to 1000 by the kernel. -/
namespace Go.Proofs.YtjnkogkpdbgohaaGreatDoor
set_option maxRecDepth 1000000 in
theorem phi_t0 : (List.range 50).all (fun n => phiOk (n + 1)) = true := by decide +kernel
set_option maxRecDepth 1000000 in
theorem phi_t1 : (List.range 50).all (fun n => phiOk (n + 51)) = true := by decide +kernel
set_option maxRecDepth 1000000 in
theorem phi_t2 : (List.range 50).all (fun n => phiOk (n + 101)) = true := by decide +kernel
set_option maxRecDepth 1000000 in
theorem phi_t3 : (List.range 50).all (fun n => phiOk (n + 151)) = true := by decide +kernel
set_option maxRecDepth 1000000 in
theorem phi_t4 : (List.range 50).all (fun n => phiOk (n + 201)) = true := by decide +kernel
set_option maxRecDepth 1000000 in
theorem phi_t5 : (List.range 50).all (fun n => phiOk (n + 251)) = true := by decide +kernel
set_option maxRecDepth 1000000 in
theorem phi_t6 : (List.range 50).all (fun n => phiOk (n + 301)) = true := by decide +kernel
set_option maxRecDepth 1000000 in
theorem phi_t7 : (List.range 50).all (fun n => phiOk (n + 351)) = true := by decide +kernel
set_option maxRecDepth 1000000 in
theorem phi_t8 : (List.range 50).all (fun n => phiOk (n + 401)) = true := by decide +kernel
set_option maxRecDepth 1000000 in
theorem phi_t9 : (List.range 50).all (fun n => phiOk (n + 451)) = true := by decide +kernel
set_option maxRecDepth 1000000 in
theorem phi_t10 : (List.range 50).all (fun n => phiOk (n + 501)) = true := by decide +kernel
set_option maxRecDepth 1000000 in
theorem phi_t11 : (List.range 50).all (fun n => phiOk (n + 551)) = true := by decide +kernel
set_option maxRecDepth 1000000 in
theorem phi_t12 : (List.range 50).all (fun n => phiOk (n + 601)) = true := by decide +kernel
set_option maxRecDepth 1000000 in
theorem phi_t13 : (List.range 50).all (fun n => phiOk (n + 651)) = true := by decide +kernel
set_option maxRecDepth 1000000 in
theorem phi_t14 : (List.range 50).all (fun n => phiOk (n + 701)) = true := by decide +kernel
set_option maxRecDepth 1000000 in
theorem phi_t15 : (List.range 50).all (fun n => phiOk (n + 751)) = true := by decide +kernel
set_option maxRecDepth 1000000 in
theorem phi_t16 : (List.range 50).all (fun n => phiOk (n + 801)) = true := by decide +kernel
set_option maxRecDepth 1000000 in
theorem phi_t17 : (List.range 50).all (fun n => phiOk (n + 851)) = true := by decide +kernel
set_option maxRecDepth 1000000 in
theorem phi_t18 : (List.range 50).all (fun n => phiOk (n + 901)) = true := by decide +kernel
set_option maxRecDepth 1000000 in
theorem phi_t19 : (List.range 50).all (fun n => phiOk (n + 951)) = true := by decide +kernel
theorem phi_range {o n : Nat} (h : (List.range 50).all (fun n => phiOk (n + o)) = true) (h0 : o ≤ n) (h1 : n < o + 50) : phiOk n = true := by
  have := List.all_eq_true.1 h (n - o) (by simp; omega)
  rwa [show n - o + o = n by omega] at this
theorem phiOk_k {n : Nat} (h0 : 0 < n) (h1 : n ≤ 1000) : phiOk n = true := by
  by_cases a0 : n < 51
  · exact phi_range phi_t0 (by omega) a0
  by_cases a1 : n < 101
  · exact phi_range phi_t1 (by omega) a1
  by_cases a2 : n < 151
  · exact phi_range phi_t2 (by omega) a2
  by_cases a3 : n < 201
  · exact phi_range phi_t3 (by omega) a3
  by_cases a4 : n < 251
  · exact phi_range phi_t4 (by omega) a4
  by_cases a5 : n < 301
  · exact phi_range phi_t5 (by omega) a5
  by_cases a6 : n < 351
  · exact phi_range phi_t6 (by omega) a6
  by_cases a7 : n < 401
  · exact phi_range phi_t7 (by omega) a7
  by_cases a8 : n < 451
  · exact phi_range phi_t8 (by omega) a8
  by_cases a9 : n < 501
  · exact phi_range phi_t9 (by omega) a9
  by_cases a10 : n < 551
  · exact phi_range phi_t10 (by omega) a10
  by_cases a11 : n < 601
  · exact phi_range phi_t11 (by omega) a11
  by_cases a12 : n < 651
  · exact phi_range phi_t12 (by omega) a12
  by_cases a13 : n < 701
  · exact phi_range phi_t13 (by omega) a13
  by_cases a14 : n < 751
  · exact phi_range phi_t14 (by omega) a14
  by_cases a15 : n < 801
  · exact phi_range phi_t15 (by omega) a15
  by_cases a16 : n < 851
  · exact phi_range phi_t16 (by omega) a16
  by_cases a17 : n < 901
  · exact phi_range phi_t17 (by omega) a17
  by_cases a18 : n < 951
  · exact phi_range phi_t18 (by omega) a18
  by_cases a19 : n < 1001
  · exact phi_range phi_t19 (by omega) a19
  omega
end Go.Proofs.YtjnkogkpdbgohaaGreatDoor
/- Plain facts: fractions. -/
namespace Go.Proofs.YtjnkogkpdbgohaaGreatDoor
def isFrac (p q : Int) : Bool := entB p && (inB q 0 1000000000 && ((Int.gcd p q : Int) == 1 && (decide (0 < q) || p == 1)))
def fx (p q : Int) : Int := p.tdiv (Int.gcd p q : Int)
def fy (p q : Int) : Int := q.tdiv (Int.gcd p q : Int)
theorem gcd_pos_right {p q : Int} (h : 0 < q) : 0 < (Int.gcd p q : Int) := by
  have := Int.gcd_pos_of_ne_zero_right p (show q ≠ 0 by omega)
  omega
structure FracBd (p q K : Int) : Prop where
  g : 0 < (Int.gcd p q : Int)
  x0 : -K ≤ fx p q
  x1 : fx p q ≤ K
  y0 : -K ≤ fy p q
  y1 : fy p q ≤ K
theorem fracBd {p q K : Int} (h : 0 < q) (p0 : -K ≤ p) (p1 : p ≤ K) (q1 : q ≤ K) : FracBd p q K :=
  ⟨gcd_pos_right h, (tdiv_bd p0 p1).1, (tdiv_bd p0 p1).2, (tdiv_bd (a := q) (K := K) (by omega) q1).1, (tdiv_bd (a := q) (K := K) (by omega) q1).2⟩
theorem isFrac_iff {p q : Int} : isFrac p q = true ↔ (-1000000000 ≤ p ∧ p ≤ 1000000000) ∧ (0 ≤ q ∧ q ≤ 1000000000) ∧ (Int.gcd p q : Int) = 1 ∧ (0 < q ∨ p = 1) := by
  simp [isFrac, entB, inB]
end Go.Proofs.YtjnkogkpdbgohaaGreatDoor
/- Plain: the next fraction in a row of Farey's. -/
namespace Go.Proofs.YtjnkogkpdbgohaaGreatDoor
/-- The numerator of the least fraction with i that is greater than p/q. -/
def nxR (p q i : Int) : Int := p * i / q + 1
/-- r/s is the neighbour of p/q with the greatest s of at most n. -/
structure NxT (p q n r s : Int) : Prop where
  s1 : 1 ≤ s
  sn : s ≤ n
  det : q * r - p * s = 1
  top : ∀ i, s < i → i ≤ n → ¬ q ∣ 1 + p * i
structure NxD (p q i d : Int) : Prop where
  eq : q * nxR p q i - p * i = d
  d1 : 1 ≤ d
theorem nx_d {p q i : Int} (hq : 0 < q) : NxD p q i (q * nxR p q i - p * i) := by
  refine ⟨rfl, ?_⟩
  have e1 := Int.mul_ediv_add_emod (p * i) q
  have e2 := Int.emod_lt_of_pos (p * i) hq
  unfold nxR
  rw [Int.mul_add, Int.mul_one]
  omega
theorem nx_key {p q n r s i : Int} (hq : 0 < q) (hg : Int.gcd p q = 1) (h : NxT p q n r s) (hi : i ≤ n) : i ≤ (q * nxR p q i - p * i) * s := by
  obtain ⟨-, hd⟩ := nx_d (p := p) (i := i) hq
  generalize hdd : q * nxR p q i - p * i = d at *
  generalize nxR p q i = R at *
  have h1 : q ∣ p * (i - d * s) := by
    refine ⟨R - d * r, ?_⟩
    have e1 := h.det
    have e2 : p * i = q * R - d := by omega
    have e3 : p * s = q * r - 1 := by omega
    have e4 : p * (i - d * s) = p * i - d * (p * s) := by grind
    rw [e4, e2, e3]; grind
  have h2 : q ∣ i - d * s := by
    have hg2 : Int.gcd q p = 1 := by rw [Int.gcd_comm]; exact hg
    have hc : Nat.Coprime q.natAbs p.natAbs := hg2
    exact Int.natAbs_dvd_natAbs.1 (hc.dvd_of_dvd_mul_left (by rw [← Int.natAbs_mul]; exact Int.natAbs_dvd_natAbs.2 h1))
  refine Int.not_lt.1 fun hlt => ?_
  have h3 : q ≤ i - d * s := Int.le_of_dvd (by omega) h2
  have h4 : 1 * s ≤ d * s := Int.mul_le_mul_of_nonneg_right hd (by have := h.s1; omega)
  refine h.top (s + q) (by omega) (by omega) ⟨r + p, ?_⟩
  have e1 := h.det
  rw [Int.mul_add, Int.mul_add, Int.mul_comm q p]
  omega
/-- What is known of the best fraction so far. -/
structure NxI (p q n r s j x y : Int) : Prop where
  x0 : 0 ≤ x
  x1 : x ≤ y + 1
  y1 : 1 ≤ y
  yn : y ≤ n
  or : (x = r ∧ y = s) ∨ (j < s ∧ y < (q * x - p * y) * s)
theorem nx_start {p q n r s : Int} (hq : 0 < q) (hp : 0 ≤ p) (hpq : p < q) (hg : Int.gcd p q = 1) (h : NxT p q n r s) (hn : 1 ≤ n) : NxI p q n r s 0 1 1 := by
  refine ⟨by omega, by omega, by omega, hn, ?_⟩
  have hk := nx_key hq hg h (i := 1) (by omega)
  have e : nxR p q 1 = 1 := by unfold nxR; rw [Int.mul_one, Int.ediv_eq_zero_of_lt hp hpq]; omega
  rw [e] at hk
  have h1 := h.s1
  by_cases he : (q * 1 - p * 1) * s = 1
  · left
    have hd : 1 ≤ q * 1 - p * 1 := by omega
    have h2 : 1 * s ≤ (q * 1 - p * 1) * s := Int.mul_le_mul_of_nonneg_right hd (by omega)
    have hs : s = 1 := by omega
    subst hs
    have h3 := h.det
    have h4 : q * 1 - p * 1 = 1 := by omega
    have h5 : q * r = q * 1 := by omega
    exact ⟨(Int.eq_of_mul_eq_mul_left (by omega) h5).symm, rfl⟩
  · right
    exact ⟨by omega, by omega⟩
theorem nx_bd {p q i : Int} (hq : 0 < q) (hp : 0 ≤ p) (hpq : p < q) (hi : 0 ≤ i) : 1 ≤ nxR p q i ∧ nxR p q i ≤ i + 1 := by
  unfold nxR
  have h1 : 0 ≤ p * i := Int.mul_nonneg hp hi
  have h2 := Int.ediv_nonneg h1 (show 0 ≤ q by omega)
  have h3 : p * i ≤ i * q := by rw [Int.mul_comm i q]; exact Int.mul_le_mul_of_nonneg_right (by omega) hi
  have h4 : p * i / q ≤ i := by
    have h5 := Int.ediv_le_ediv hq h3
    rwa [Int.mul_ediv_cancel i (show q ≠ 0 by omega)] at h5
  omega
/-- A step of the loop: the candidate takes the best one's place if it is less. -/
theorem nx_step {p q n r s j x y : Int} (hq : 0 < q) (hp : 0 ≤ p) (hpq : p < q) (hg : Int.gcd p q = 1) (h : NxT p q n r s) (h0 : 0 ≤ j) (hj : j + 1 ≤ n) (hI : NxI p q n r s j x y) :
    (nxR p q (j + 1) * y - x * (j + 1) < 0 → NxI p q n r s (j + 1) (nxR p q (j + 1)) (j + 1)) ∧ (¬ nxR p q (j + 1) * y - x * (j + 1) < 0 → NxI p q n r s (j + 1) x y) := by
  have hk := nx_key hq hg h hj
  obtain ⟨-, hd⟩ := nx_d (p := p) (i := j + 1) hq
  obtain ⟨b0, b1⟩ := nx_bd (i := j + 1) hq hp hpq (by omega)
  have hdet := h.det
  obtain ⟨x0, x1, y1, yn, ho⟩ := hI
  have hRs : j + 1 = s → nxR p q (j + 1) = r := by
    intro e
    have e1 := Int.mul_ediv_add_emod (p * s) q
    have e2 := Int.emod_lt_of_pos (p * s) hq
    have e3 := Int.emod_nonneg (p * s) (show q ≠ 0 by omega)
    unfold nxR
    rw [e]
    have e4 : p * s = q * (r - 1) + (q - 1) := by rw [Int.mul_sub, Int.mul_one]; omega
    have : p * s / q = r - 1 := by
      rw [e4, Int.add_comm, Int.add_mul_ediv_left _ _ (by omega), Int.ediv_eq_zero_of_lt (by omega) (by omega)]
      omega
    omega
  generalize nxR p q (j + 1) = R at *
  generalize hi : j + 1 = i at *
  have ec : q * (R * y - x * i) = (q * R - p * i) * y - (q * x - p * y) * i := by grind
  rcases ho with ⟨rfl, rfl⟩ | ⟨hjs, hv⟩
  · have h1 : (q * x - p * y) * i = i := by rw [hdet, Int.one_mul]
    have h2 : ¬ R * y - x * i < 0 := by
      intro hlt
      have := Int.mul_le_mul_of_nonneg_left (show R * y - x * i ≤ -1 by omega) (show 0 ≤ q by omega)
      omega
    exact ⟨fun hlt => absurd hlt h2, fun _ => ⟨x0, x1, y1, yn, .inl ⟨rfl, rfl⟩⟩⟩
  · by_cases his : i = s
    · obtain rfl := hRs his
      subst his
      have h3 : R * y - x * i < 0 := by
        refine Int.not_le.1 fun hge => ?_
        have := Int.mul_nonneg (show 0 ≤ q by omega) hge
        rw [ec, hdet, Int.one_mul] at this
        omega
      exact ⟨fun _ => ⟨by omega, by omega, by omega, by omega, .inl ⟨rfl, rfl⟩⟩, fun hlt => absurd h3 hlt⟩
    · refine ⟨fun _ => ⟨by omega, by omega, by omega, by omega, .inr ⟨by omega, ?_⟩⟩, fun _ => ⟨x0, x1, y1, yn, .inr ⟨by omega, hv⟩⟩⟩
      have h4 : 1 * s ≤ (q * R - p * i) * s := Int.mul_le_mul_of_nonneg_right hd (by omega)
      omega
theorem nx_end {p q n r s x y : Int} (h : NxT p q n r s) (hI : NxI p q n r s n x y) : x = r ∧ y = s := by
  rcases hI.or with h1 | ⟨h1, -⟩
  · exact h1
  · have := h.sn; omega
theorem bez_nat (m n : Nat) : ∃ u v : Int, (m : Int) * u + (n : Int) * v = (Nat.gcd m n : Int) := by
  refine Nat.gcd.induction (P := fun m n => ∃ u v : Int, (m : Int) * u + (n : Int) * v = (Nat.gcd m n : Int)) m n (fun n => ⟨0, 1, by simp⟩) (fun m n hm ih => ?_)
  obtain ⟨u, v, h⟩ := ih
  refine ⟨v - ((n / m : Nat) : Int) * u, u, ?_⟩
  have e : (n : Int) = (m : Int) * ((n / m : Nat) : Int) + ((n % m : Nat) : Int) := by
    have := Nat.div_add_mod n m
    exact_mod_cast this.symm
  rw [Nat.gcd_rec m n, ← h]
  generalize ((n % m : Nat) : Int) = x at *
  generalize ((n / m : Nat) : Int) = y at *
  rw [e]; grind
/-- There is one. -/
theorem nx_some {p q n : Int} (hp : 0 ≤ p) (hq : 0 < q) (hn : q ≤ n) (hg : Int.gcd p q = 1) : ∃ i : Int, 1 ≤ i ∧ i ≤ n ∧ q ∣ 1 + p * i := by
  obtain ⟨u, v, h⟩ := bez_nat p.toNat q.toNat
  have hg2 : Nat.gcd p.toNat q.toNat = 1 := by
    have : Int.gcd p q = Nat.gcd p.natAbs q.natAbs := rfl
    rw [this] at hg
    rwa [show p.natAbs = p.toNat by omega, show q.natAbs = q.toNat by omega] at hg
  rw [hg2, show ((p.toNat : Nat) : Int) = p by omega, show ((q.toNat : Nat) : Int) = q by omega] at h
  have e0 := Int.mul_ediv_add_emod u q
  have e1 := Int.emod_nonneg u (show q ≠ 0 by omega)
  have e2 := Int.emod_lt_of_pos u hq
  generalize u % q = x at *
  generalize u / q = y at *
  refine ⟨q - x, by omega, by omega, v + p + p * y, ?_⟩
  rw [← e0] at h
  have : 1 + p * (q - x) = (p * (q * y + x) + q * v) + p * (q - x) := by rw [h]; omega
  rw [this]; grind
theorem nx_ex {p q n : Int} (hp : 0 ≤ p) (hq : 0 < q) (hn : q ≤ n) (hg : Int.gcd p q = 1) : ∃ r s, NxT p q n r s := by
  have key : ∀ k : Nat, ∀ m : Int, m = (k : Int) → m ≤ n → (∀ i, m < i → i ≤ n → ¬ q ∣ 1 + p * i) → (∃ i, 1 ≤ i ∧ i ≤ m ∧ q ∣ 1 + p * i) → ∃ r s, NxT p q n r s := by
    intro k
    induction k with
    | zero => intro m hm _ _ ⟨i, h1, h2, _⟩; omega
    | succ k ih =>
      intro m hm hmn htop hex
      by_cases hd : q ∣ 1 + p * m
      · obtain ⟨r, hr⟩ := hd
        exact ⟨r, m, by omega, hmn, by rw [← hr]; omega, htop⟩
      · refine ih (m - 1) (by omega) (by omega) (fun i h1 h2 => ?_) ?_
        · by_cases he : i = m
          · subst he; exact hd
          · exact htop i (by omega) h2
        · obtain ⟨i, h1, h2, h3⟩ := hex
          refine ⟨i, h1, ?_, h3⟩
          by_cases he : i = m
          · subst he; exact absurd h3 hd
          · omega
  exact key n.toNat n (by omega) (Int.le_refl _) (fun i h1 h2 => by omega) (nx_some hp hq hn hg)
end Go.Proofs.YtjnkogkpdbgohaaGreatDoor
/- Plain: normal pairs, the line of a level. -/
namespace Go.Proofs.YtjnkogkpdbgohaaGreatDoor
def lexB (a b x y : Int) : Bool := decide (a < x) || (decide (a = x) && decide (b < y))
def isPairB (n c d : Int) : Bool := (Int.gcd (Int.gcd c d : Int) n : Int) == 1
structure P2 where
  x : Int
  y : Int
  deriving DecidableEq
/-- The least of the multiples by units up to k. -/
def nrm (n c d : Int) : Nat → P2
  | 0 => ⟨c, d⟩
  | k + 1 => if ((Int.gcd ((k : Int) + 1) n : Int) == 1 && lexB ((k + 1) * c % n) ((k + 1) * d % n) (nrm n c d k).x (nrm n c d k).y) = true then ⟨(k + 1) * c % n, (k + 1) * d % n⟩ else nrm n c d k
theorem nrm_skip {n c d : Int} {k : Nat} (h : (Int.gcd ((k : Int) + 1) n : Int) ≠ 1) : nrm n c d (k + 1) = nrm n c d k := by simp [nrm, h]
theorem nrm_yes {n c d : Int} {k : Nat} (h : (Int.gcd ((k : Int) + 1) n : Int) = 1) (h2 : lexB ((k + 1) * c % n) ((k + 1) * d % n) (nrm n c d k).x (nrm n c d k).y = true) : nrm n c d (k + 1) = ⟨(k + 1) * c % n, (k + 1) * d % n⟩ := by simp [nrm, h, h2]
theorem nrm_no {n c d : Int} {k : Nat} (h2 : lexB ((k + 1) * c % n) ((k + 1) * d % n) (nrm n c d k).x (nrm n c d k).y = false) : nrm n c d (k + 1) = nrm n c d k := by simp [nrm, h2]
def normal (n c d : Int) : P2 := nrm n c d (n - 1).toNat
theorem nrm_bd {n c d : Int} (hn : 0 < n) (hc : 0 ≤ c ∧ c < n) (hd : 0 ≤ d ∧ d < n) (k : Nat) : (0 ≤ (nrm n c d k).x ∧ (nrm n c d k).x < n) ∧ (0 ≤ (nrm n c d k).y ∧ (nrm n c d k).y < n) := by
  induction k with
  | zero => exact ⟨hc, hd⟩
  | succ k ih =>
    unfold nrm
    split
    · exact ⟨⟨Int.emod_nonneg _ (by omega), Int.emod_lt_of_pos _ hn⟩, Int.emod_nonneg _ (by omega), Int.emod_lt_of_pos _ hn⟩
    · exact ih
theorem normal_bd {n c d : Int} (hn : 0 < n) (hc : 0 ≤ c ∧ c < n) (hd : 0 ≤ d ∧ d < n) : (0 ≤ (normal n c d).x ∧ (normal n c d).x < n) ∧ (0 ≤ (normal n c d).y ∧ (normal n c d).y < n) := nrm_bd hn hc hd _
def selfB (n c d : Int) : Bool := isPairB n c d && decide (normal n c d = ⟨c, d⟩)
/-- The normal pairs with the first number c, and a second one below m. -/
def lineRow (n c : Int) : Nat → List P2
  | 0 => []
  | d + 1 => lineRow n c d ++ (if selfB n c d = true then [⟨c, d⟩] else [])
def lineTo (n : Int) (N : Nat) : Nat → List P2
  | 0 => []
  | c + 1 => lineTo n N c ++ lineRow n c N
def lineL (n : Int) : List P2 := lineTo n n.toNat n.toNat
theorem lineRow_len (n c : Int) (m : Nat) : (lineRow n c m).length ≤ m := by
  induction m with
  | zero => simp [lineRow]
  | succ m ih => unfold lineRow; split <;> simp <;> omega
theorem lineTo_len (n : Int) (N m : Nat) : (lineTo n N m).length ≤ m * N := by
  induction m with
  | zero => simp [lineTo]
  | succ m ih =>
    unfold lineTo
    rw [List.length_append, Nat.succ_mul]
    have := lineRow_len n m N
    omega
theorem lineL_len {n : Int} (h1 : n ≤ 60) : (lineL n).length ≤ 3600 := by
  have h := lineTo_len n n.toNat n.toNat
  have h2 : n.toNat * n.toNat ≤ 60 * 60 := Nat.mul_le_mul (by omega) (by omega)
  unfold lineL; omega
structure InLine (n : Int) (p : P2) : Prop where
  c0 : 0 ≤ p.x
  c1 : p.x < n
  d0 : 0 ≤ p.y
  d1 : p.y < n
  pair : isPairB n p.x p.y = true
  self : normal n p.x p.y = p
theorem lineRow_mem {n c : Int} {m : Nat} {p : P2} : p ∈ lineRow n c m ↔ p.x = c ∧ 0 ≤ p.y ∧ p.y < m ∧ selfB n p.x p.y = true := by
  induction m with
  | zero => simp [lineRow]; omega
  | succ m ih =>
    unfold lineRow
    rw [List.mem_append, ih]
    constructor
    · rintro (⟨h1, h2, h3, h4⟩ | h)
      · exact ⟨h1, h2, by omega, h4⟩
      · split at h
        · simp at h; subst h; exact ⟨rfl, by simp, by simp; omega, by assumption⟩
        · simp at h
    · rintro ⟨h1, h2, h3, h4⟩
      by_cases h : p.y = m
      · right
        obtain ⟨x, y⟩ := p
        simp only at h1 h h4
        subst h1; subst h
        rw [if_pos h4]; simp
      · exact .inl ⟨h1, h2, by omega, h4⟩
theorem lineTo_mem {n : Int} {N m : Nat} {p : P2} : p ∈ lineTo n N m ↔ 0 ≤ p.x ∧ p.x < m ∧ 0 ≤ p.y ∧ p.y < N ∧ selfB n p.x p.y = true := by
  induction m with
  | zero => simp [lineTo]; omega
  | succ m ih =>
    unfold lineTo
    rw [List.mem_append, ih, lineRow_mem]
    constructor
    · rintro (⟨h1, h2, h3⟩ | ⟨h1, h2, h3⟩)
      · exact ⟨h1, by omega, h3⟩
      · exact ⟨by omega, by omega, h2, h3⟩
    · rintro ⟨h1, h2, h3⟩
      by_cases h : p.x = m
      · exact .inr ⟨h, h3⟩
      · exact .inl ⟨h1, by omega, h3⟩
theorem lineL_mem {n : Int} (hn : 0 < n) {p : P2} : p ∈ lineL n ↔ InLine n p := by
  unfold lineL
  rw [lineTo_mem]
  have e : ((n.toNat : Nat) : Int) = n := by omega
  rw [e]
  constructor
  · rintro ⟨h1, h2, h3, h4, h5⟩
    simp only [selfB, Bool.and_eq_true, decide_eq_true_eq] at h5
    exact ⟨h1, h2, h3, h4, h5.1, h5.2⟩
  · rintro ⟨h1, h2, h3, h4, h5, h6⟩
    exact ⟨h1, h2, h3, h4, by simp [selfB, h5, h6]⟩
/-- The place of the first p from k on, or -1. -/
def findI (p : P2) : List P2 → Int → Int
  | [], _ => -1
  | q :: l, k => if q = p then k else findI p l (k + 1)
theorem findI_hit {p : P2} {l : List P2} {k : Nat} (hk : k < l.length) (h : l[k] = p) (hb : ∀ j (hj : j < k), l[j]'(by omega) ≠ p) (s : Int) : findI p l s = s + k := by
  induction l generalizing k s with
  | nil => simp at hk
  | cons q l ih =>
    unfold findI
    cases k with
    | zero => simp at h; rw [if_pos h]; simp
    | succ k =>
      have h0 := hb 0 (by omega)
      simp at h0 h
      rw [if_neg h0, ih (k := k) (by simpa using hk) h (fun j hj => by have := hb (j + 1) (by omega); simpa using this)]
      push_cast; omega
theorem findI_none {p : P2} {l : List P2} (h : p ∉ l) (s : Int) : findI p l s = -1 := by
  induction l generalizing s with
  | nil => rfl
  | cons q l ih =>
    simp at h
    unfold findI
    rw [if_neg (fun e => h.1 e.symm), ih h.2]
theorem findI_bd (p : P2) (l : List P2) (s : Int) (h : p ∈ l) : s ≤ findI p l s ∧ findI p l s < s + l.length := by
  induction l generalizing s with
  | nil => simp at h
  | cons q l ih =>
    unfold findI
    split
    · simp; omega
    · rename_i hne
      have := ih (s + 1) (by simp at h; rcases h with h | h; exact absurd h.symm hne; exact h)
      simp only [List.length_cons]; push_cast; omega
theorem findI_lo (p : P2) (l : List P2) (s : Int) (hs : 0 ≤ s) : -1 ≤ findI p l s ∧ findI p l s < s + l.length := by
  by_cases h : p ∈ l
  · have := findI_bd p l s h; omega
  · rw [findI_none h]; omega
/-- The number of the coset of two numbers. -/
def cosetI (n : Int) (l : List P2) (c d : Int) : Int := findI (normal n (c % n) (d % n)) l 0
def flat2 (l : List P2) : List Int := l.flatMap fun f => [f.x, f.y]
theorem flat2_len (l : List P2) : (flat2 l).length = l.length * 2 := by
  induction l with
  | nil => rfl
  | cons f l ih => simp only [flat2, List.flatMap_cons, List.length_append, List.length_cons] at *; simp at *; omega
theorem flat2_snoc (l : List P2) (f : P2) : flat2 (l ++ [f]) = flat2 l ++ [f.x, f.y] := by simp [flat2]
theorem flat2_append (l m : List P2) : flat2 (l ++ m) = flat2 l ++ flat2 m := by simp [flat2]
end Go.Proofs.YtjnkogkpdbgohaaGreatDoor
/- Plain: the rows of Farey's up to 20, by the kernel. -/
namespace Go.Proofs.YtjnkogkpdbgohaaGreatDoor
/-- The next fraction by search. -/
def nxN (p q : Nat) : Nat → Nat × Nat
  | 0 => (1, 1)
  | s + 1 => if (1 + p * (s + 1)) % q = 0 then ((1 + p * (s + 1)) / q, s + 1) else nxN p q s
def frN (n : Nat) : Nat → Nat → Nat → List (Nat × Nat)
  | 0, _, _ => []
  | f + 1, p, q => if p = 1 ∧ q = 1 then [] else nxN p q n :: frN n f (nxN p q n).1 (nxN p q n).2
/-- The fractions of the row of n behind 0/1. -/
def rowN (n : Nat) : List (Nat × Nat) := frN n 200 0 1
/-- No i behind s, of k numbers, is one. -/
def topB (p q s : Nat) : Nat → Bool
  | 0 => true
  | k + 1 => decide ((1 + p * (s + k + 1)) % q ≠ 0) && topB p q s k
def rowB (n : Nat) : Nat → Nat → List (Nat × Nat) → Bool
  | p, q, [] => decide (p = 1 ∧ q = 1)
  | p, q, x :: l => decide (p < q ∧ q ≤ n ∧ Nat.gcd p q = 1 ∧ 1 ≤ x.2 ∧ x.2 ≤ n ∧ q * x.1 = p * x.2 + 1) && (topB p q x.2 (n - x.2) && rowB n x.1 x.2 l)
theorem topB_of {p q s : Nat} : ∀ {k : Nat}, topB p q s k = true → ∀ i, s < i → i ≤ s + k → (1 + p * i) % q ≠ 0
  | 0, _, i, h1, h2 => by omega
  | k + 1, h, i, h1, h2 => by
    simp only [topB, Bool.and_eq_true, decide_eq_true_eq] at h
    by_cases he : i = s + k + 1
    · subst he; exact h.1
    · exact topB_of h.2 i h1 (by omega)
def toP (x : Nat × Nat) : P2 := ⟨(x.1 : Int), (x.2 : Int)⟩
/-- The fractions of a row behind p/q. -/
inductive FR (n : Int) : Int → Int → List P2 → Prop
  | done : FR n 1 1 []
  | next {p q r s : Int} {l : List P2} : 0 ≤ p → p < q → q ≤ n → Int.gcd p q = 1 → NxT p q n r s → FR n r s l → FR n p q (⟨r, s⟩ :: l)
theorem rowB_fr {n : Nat} : ∀ {l : List (Nat × Nat)} {p q : Nat}, rowB n p q l = true → FR (n : Int) (p : Int) (q : Int) (l.map toP)
  | [], p, q, h => by
    simp only [rowB, decide_eq_true_eq] at h
    obtain ⟨rfl, rfl⟩ := h
    exact .done
  | (r, s) :: l, p, q, h => by
    simp only [rowB, Bool.and_eq_true, decide_eq_true_eq] at h
    obtain ⟨⟨h1, h2, h3, h4, h5, h6⟩, h7, h8⟩ := h
    refine .next (by omega) (by omega) (by omega) (by rw [Int.gcd]; exact h3) ⟨by omega, by omega, ?_, fun i i1 i2 hd => ?_⟩ (rowB_fr h8)
    · have : (q : Int) * (r : Int) = (p : Int) * (s : Int) + 1 := by exact_mod_cast h6
      show (q : Int) * (r : Int) - (p : Int) * (s : Int) = 1
      omega
    · obtain ⟨m, rfl⟩ : ∃ m : Nat, i = (m : Int) := ⟨i.toNat, by omega⟩
      refine topB_of h7 m (by omega) (by omega) ?_
      have : ((1 + p * m : Nat) : Int) % (q : Int) = 0 := by push_cast; exact Int.emod_eq_zero_of_dvd hd
      exact_mod_cast this
set_option maxRecDepth 1000000 in
theorem rowB_all : (List.range 20).all (fun n => rowB (n + 1) 0 1 (rowN (n + 1)) && decide ((rowN (n + 1)).length ≤ 128)) = true := by decide +kernel
/-- The row of n. -/
def rowP (n : Nat) : List P2 := ⟨0, 1⟩ :: (rowN n).map toP
theorem rowN_ok {n : Nat} (h0 : 1 ≤ n) (h1 : n ≤ 20) : FR (n : Int) 0 1 ((rowN n).map toP) ∧ (rowN n).length ≤ 128 := by
  have := List.all_eq_true.1 rowB_all (n - 1) (by simp; omega)
  rw [show n - 1 + 1 = n by omega, Bool.and_eq_true, decide_eq_true_eq] at this
  exact ⟨rowB_fr this.1, this.2⟩
/-- The list behind the last fraction told: what a round needs. -/
theorem FR.ne {n p q : Int} {x : P2} {l : List P2} (h : FR n p q (x :: l)) : ¬ (p = 1 ∧ q = 1) := by
  cases h with
  | next _ h2 => omega
theorem FR.one {n p q : Int} (h : FR n p q []) : p = 1 ∧ q = 1 := by
  cases h; exact ⟨rfl, rfl⟩
structure FRn (n p q : Int) (x : P2) (l : List P2) : Prop where
  p0 : 0 ≤ p
  pq : p < q
  qn : q ≤ n
  g : Int.gcd p q = 1
  t : NxT p q n x.x x.y
  r : FR n x.x x.y l
theorem FR.inv {n p q : Int} {x : P2} {l : List P2} (h : FR n p q (x :: l)) : FRn n p q x l := by
  cases h with
  | next h1 h2 h3 h4 h5 h6 => exact ⟨h1, h2, h3, h4, h5, h6⟩
/-- Each step of a row. -/
theorem FR.at {n : Int} : ∀ {l : List P2} {p q : Int}, FR n p q l → ∀ j x y, (⟨p, q⟩ :: l : List P2)[j]? = some x → (⟨p, q⟩ :: l : List P2)[j + 1]? = some y → ∃ l', FRn n x.x x.y y l'
  | [], p, q, _, j, x, y, _, hy => by simp at hy
  | z :: l, p, q, h, 0, x, y, hx, hy => by
    simp only [List.getElem?_cons_zero, Option.some.injEq] at hx
    simp only [List.getElem?_cons_succ, List.getElem?_cons_zero, Option.some.injEq] at hy
    subst hx; subst hy
    exact ⟨l, h.inv⟩
  | z :: l, p, q, h, j + 1, x, y, hx, hy => by
    simp only [List.getElem?_cons_succ] at hx hy
    exact FR.at h.inv.r j x y hx hy
end Go.Proofs.YtjnkogkpdbgohaaGreatDoor
/- Plain facts: whole square roots; reduced forms. -/
namespace Go.Proofs.YtjnkogkpdbgohaaGreatDoor
theorem mul_le_self {x y : Int} (h0 : 0 ≤ x) (h : x ≤ y) : x * x ≤ y * y := Int.le_trans (Int.mul_le_mul_of_nonneg_left h h0) (Int.mul_le_mul_of_nonneg_right h (Int.le_trans h0 h))
theorem lt_of_sq {x y : Int} (hy : 0 ≤ y) (h : x * x < y * y) : x < y := by
  refine Int.not_le.1 fun hh => ?_
  have := mul_le_self hy hh
  omega
theorem le_of_sq {x y : Int} (hy : 0 ≤ y) (h : x * x ≤ y * y) : x ≤ y := by
  refine Int.not_lt.1 fun hh => ?_
  have h1 : y + 1 ≤ x := by omega
  have := mul_le_self (show 0 ≤ y + 1 by omega) h1
  have h2 : (y + 1) * (y + 1) = y * y + 2 * y + 1 := by grind
  omega
/-- r is the whole square root of d. -/
structure IsRoot (r d : Int) : Prop where
  nn : 0 ≤ r
  lo : r * r ≤ d
  hi : d < (r + 1) * (r + 1)
theorem root_unique {r s d : Int} (h : IsRoot r d) (h' : IsRoot s d) : r = s := by
  have h1 : r < s + 1 := lt_of_sq (by have := h'.nn; omega) (Int.lt_of_le_of_lt h.lo h'.hi)
  have h2 : s < r + 1 := lt_of_sq (by have := h.nn; omega) (Int.lt_of_le_of_lt h'.lo h.hi)
  omega
def rootUp : Nat → Nat → Nat
  | 0, _ => 0
  | k + 1, n => if (rootUp k n + 1) * (rootUp k n + 1) ≤ n then rootUp k n + 1 else rootUp k n
theorem rootUp_lo : ∀ (k n : Nat), rootUp k n * rootUp k n ≤ n
  | 0, n => by simp [rootUp]
  | k + 1, n => by
    unfold rootUp
    split
    · assumption
    · exact rootUp_lo k n
theorem rootUp_hi : ∀ (k n : Nat), k ≤ rootUp k n ∨ n < (rootUp k n + 1) * (rootUp k n + 1)
  | 0, n => by simp
  | k + 1, n => by
    have ih := rootUp_hi k n
    unfold rootUp
    split
    · rename_i h
      rcases ih with h1 | h1
      · left; omega
      · omega
    · rename_i h; right; omega
def isqrt (d : Int) : Int := (rootUp (d.toNat + 1) d.toNat : Nat)
theorem isqrt_root {d : Int} (h : 0 ≤ d) : IsRoot (isqrt d) d := by
  have h1 := rootUp_lo (d.toNat + 1) d.toNat
  have h2 := rootUp_hi (d.toNat + 1) d.toNat
  unfold isqrt
  generalize rootUp (d.toNat + 1) d.toNat = r at h1 h2
  have e : ((d.toNat : Nat) : Int) = d := by omega
  have h1' : (r : Int) * r ≤ d := by rw [← e]; exact_mod_cast h1
  refine ⟨by omega, h1', ?_⟩
  rcases h2 with h2 | h2
  · have h3 : d + 1 ≤ (r : Int) := by omega
    have h4 : (r : Int) ≤ r * r := by
      have := Int.mul_le_mul_of_nonneg_left (show (1 : Int) ≤ r by omega) (show (0 : Int) ≤ r by omega)
      omega
    omega
  · rw [← e]; exact_mod_cast h2
def sqB (d : Int) : Bool := isqrt d * isqrt d == d
/-- The Bool of 'isReduced'. -/
def disc (a b c : Int) : Int := b * b - 4 * a * c
def redDef (a b c : Int) : Bool := decide (-a ≤ b ∧ b ≤ a ∧ a ≤ c ∧ (0 ≤ b ∨ (-b ≠ a ∧ a ≠ c)))
def redInd (a b c : Int) : Bool := decide (0 < b ∧ b * b < disc a b c ∧ disc a b c < (2 * (a.natAbs : Int) + b) * (2 * (a.natAbs : Int) + b) ∧ (2 * (a.natAbs : Int) < b ∨ (2 * (a.natAbs : Int) - b) * (2 * (a.natAbs : Int) - b) < disc a b c))
def redB (a b c : Int) : Bool := if disc a b c < 0 ∧ 0 < a then redDef a b c else redInd a b c
theorem disc_bd {a b c : Int} (h : Small a b c) : -4000000000000 ≤ disc a b c ∧ disc a b c ≤ 5000000000000 := by
  obtain ⟨a0, a1, b0, b1, c0, c1⟩ := h
  have h1 := mul_bd b0 b1 b0 b1
  have h2 := mul_bd (a := 4 * a) (b := c) (A := 4000000) (B := 1000000) (by omega) (by omega) c0 c1
  have h3 := sq_nn b
  unfold disc
  omega
end Go.Proofs.YtjnkogkpdbgohaaGreatDoor
/- Plain facts: the whole square root by halves; reduced forms. -/
namespace Go.Proofs.YtjnkogkpdbgohaaGreatDoor
structure SqInv (n x y : Int) : Prop where
  lo : x * x ≤ n
  st : (y = 0 ∧ n < (x + 1) * (x + 1)) ∨ ∃ j : Nat, y = ((2 ^ j : Nat) : Int) ∧ n < (x + 2 * y) * (x + 2 * y)
theorem sqInv_start {n : Int} (h0 : 0 ≤ n) (h : n ≤ 5000000000000) : SqInv n 0 2147483648 :=
  ⟨by simpa using h0, .inr ⟨31, by decide, by omega⟩⟩
theorem sqInv_x {n x y : Int} (h : SqInv n x y) (hn : n ≤ 5000000000000) : x ≤ 2236068 := by
  refine Int.not_lt.1 fun hh => ?_
  have h1 := mul_le_self (show (0 : Int) ≤ 2236069 by omega) (show (2236069 : Int) ≤ x by omega)
  have := h.lo
  omega
theorem sqInv_half {n x x' y : Int} (hy : 0 < y) (h : SqInv n x y) (hlo : x' * x' ≤ n) (hhi : n < (x' + y) * (x' + y)) : SqInv n x' (y / 2) := by
  refine ⟨hlo, ?_⟩
  rcases h.st with ⟨h1, _⟩ | ⟨j, hj, _⟩
  · omega
  · cases j with
    | zero => left; simp at hj; subst hj; exact ⟨by decide, hhi⟩
    | succ j =>
      right
      refine ⟨j, ?_, ?_⟩
      · rw [hj, Nat.pow_succ]; omega
      · have : 2 * (y / 2) = y := by rw [hj, Nat.pow_succ]; omega
        rw [this]; exact hhi
theorem sqInv_no {n x y : Int} (hy : 0 < y) (h : SqInv n x y) (hno : ¬ (x + y) * (x + y) ≤ n) : SqInv n x (y / 2) := sqInv_half hy h h.lo (by omega)
theorem sqInv_yes {n x y : Int} (hy : 0 < y) (h : SqInv n x y) (hyes : (x + y) * (x + y) ≤ n) : SqInv n (x + y) (y / 2) := by
  refine sqInv_half hy h hyes ?_
  rcases h.st with ⟨h1, _⟩ | ⟨j, _, h2⟩
  · omega
  · have : x + y + y = x + 2 * y := by omega
    rw [this]; exact h2
theorem sqInv_end {n x : Int} (h : SqInv n x 0) (hx : 0 ≤ x) : IsRoot x n := by
  refine ⟨hx, h.lo, ?_⟩
  rcases h.st with ⟨_, h2⟩ | ⟨j, hj, _⟩
  · exact h2
  · have := Nat.two_pow_pos j
    omega
theorem sqB_eq {n x : Int} (h : IsRoot x n) (hn : 0 ≤ n) : (x * x == n) = sqB n := by
  unfold sqB; rw [root_unique h (isqrt_root hn)]
theorem isqrt_le {d K : Int} (h0 : 0 ≤ d) (hK : 0 ≤ K) (h : d < (K + 1) * (K + 1)) : isqrt d ≤ K := by
  have := (isqrt_root h0).lo
  have := lt_of_sq (show 0 ≤ K + 1 by omega) (Int.lt_of_le_of_lt this h)
  omega
theorem isqrt_bd {d : Int} (h0 : 0 ≤ d) (h1 : d ≤ 5000000000000) : 0 ≤ isqrt d ∧ isqrt d ≤ 2236068 := ⟨(isqrt_root h0).nn, isqrt_le h0 (by omega) (by omega)⟩
end Go.Proofs.YtjnkogkpdbgohaaGreatDoor
/- Plain facts: definite forms are reduced by steps. -/
namespace Go.Proofs.YtjnkogkpdbgohaaGreatDoor
structure M4 where
  p : Int
  q : Int
  r : Int
  s : Int
  deriving DecidableEq
structure RS where
  f : F3
  m : M4
def stepM (f : F3) : M4 := if inB f.y (-f.x + 1) f.x = true then ⟨0, -1, 1, 0⟩ else ⟨1, (-f.x - f.y) / (2 * f.x) + 1, 0, 1⟩
def mulM (m n : M4) : M4 := ⟨m.p * n.p + m.q * n.r, m.p * n.q + m.q * n.s, m.r * n.p + m.s * n.r, m.r * n.q + m.s * n.s⟩
def stepR (c : RS) : RS := ⟨madeForm c.f.x c.f.y c.f.z (stepM c.f).p (stepM c.f).q (stepM c.f).r (stepM c.f).s, mulM c.m (stepM c.f)⟩
def reduceN : Nat → RS → RS
  | 0, c => c
  | k + 1, c => if redB c.f.x c.f.y c.f.z = true then c else reduceN k (stepR c)
theorem reduceN_done {k : Nat} {c : RS} (h : redB c.f.x c.f.y c.f.z = true) : reduceN k c = c := by
  cases k with
  | zero => rfl
  | succ k => unfold reduceN; rw [if_pos h]
theorem reduceN_step {k : Nat} {c : RS} (h : redB c.f.x c.f.y c.f.z = false) : reduceN (k + 1) c = reduceN k (stepR c) := by
  show (if redB c.f.x c.f.y c.f.z = true then c else reduceN k (stepR c)) = _
  rw [h]; simp
def meas (f : F3) : Int := 4 * f.x + (if inB f.y (-f.x + 1) f.x = true then (if f.y < 0 then 2 else 1) else 3)
/-- What holds of a definite form on its way, and of its matrix; a, b, c: the form at the start. -/
structure DefInv (a b c : Int) (t : RS) : Prop where
  sm : Small t.f.x t.f.y t.f.z
  x0 : 0 < t.f.x
  z0 : 0 < t.f.z
  d : disc t.f.x t.f.y t.f.z < 0
  dd : disc t.f.x t.f.y t.f.z = disc a b c
  f1 : formAt a b c t.m.p t.m.r = t.f.x
  f2 : formMid a b c t.m.p t.m.q t.m.r t.m.s = t.f.y
  f3 : formAt a b c t.m.q t.m.s = t.f.z
  det : t.m.p * t.m.s - t.m.q * t.m.r = 1
theorem pos_c {a b c : Int} (h : disc a b c < 0) (ha : 0 < a) : 0 < c := by
  refine Int.not_le.1 fun hc => ?_
  have h1 : 4 * a * c ≤ 0 := by
    have := Int.mul_nonpos_of_nonneg_of_nonpos (show 0 ≤ 4 * a by omega) hc
    exact this
  have h2 := sq_nn b
  unfold disc at h
  omega
theorem inv_start {a b c : Int} (h : Small a b c) (hd : disc a b c < 0) (ha : 0 < a) : DefInv a b c ⟨⟨a, b, c⟩, ⟨1, 0, 0, 1⟩⟩ := by
  refine ⟨h, ha, pos_c hd ha, hd, rfl, ?_, ?_, ?_, ?_⟩ <;> simp [formAt, formMid]
/-- A value of a definite form bounds what it is taken at. -/
theorem at_sq {a b c x y v K : Int} (hd : disc a b c ≤ -3) (hv : formAt a b c x y = v) (ha : 0 < a) (ha1 : a ≤ 1000000) (hv1 : v ≤ 1000000) (hK : K = 1154701) : -K ≤ y ∧ y ≤ K := by
  have e : 4 * a * v = (2 * a * x + b * y) * (2 * a * x + b * y) - disc a b c * (y * y) := by
    rw [← hv]; unfold formAt disc; grind
  have h1 := sq_nn (2 * a * x + b * y)
  have h2 := sq_nn y
  have hv0 : 0 ≤ v ∨ v < 0 := by omega
  have h3 : 3 * (y * y) ≤ 4 * a * v := by
    have := Int.mul_le_mul_of_nonneg_right (show 3 ≤ -disc a b c by omega) h2
    rw [Int.neg_mul] at this
    omega
  have h4 : 4 * a * v ≤ 4000000000000 := by
    rcases hv0 with h | h
    · have := Int.mul_le_mul (show 4 * a ≤ 4000000 by omega) hv1 h (by omega)
      omega
    · have := Int.mul_nonpos_of_nonneg_of_nonpos (show 0 ≤ 4 * a by omega) (show v ≤ 0 by omega)
      omega
  subst hK
  constructor
  · refine Int.not_lt.1 fun hh => ?_
    have := mul_le_self (show (0 : Int) ≤ 1154702 by omega) (show (1154702 : Int) ≤ -y by omega)
    rw [Int.neg_mul_neg] at this
    omega
  · refine Int.not_lt.1 fun hh => ?_
    have := mul_le_self (show (0 : Int) ≤ 1154702 by omega) (show (1154702 : Int) ≤ y by omega)
    omega
theorem at_flip (a b c x y : Int) : formAt a b c x y = formAt c b a y x := by unfold formAt; grind
theorem disc_flip (a b c : Int) : disc a b c = disc c b a := by unfold disc; grind
theorem disc_mod {a b c : Int} (h : disc a b c < 0) : disc a b c ≤ -3 := by
  have h1 : disc a b c = b * b - 4 * (a * c) := by unfold disc; grind
  have h2 : b * b % 4 = 0 ∨ b * b % 4 = 1 := by
    rcases Int.emod_two_eq b with hb | hb
    · left
      have : b = 2 * (b / 2) := by omega
      rw [this, show 2 * (b / 2) * (2 * (b / 2)) = 4 * ((b / 2) * (b / 2)) by grind]; omega
    · right
      have : b = 2 * (b / 2) + 1 := by omega
      rw [this, show (2 * (b / 2) + 1) * (2 * (b / 2) + 1) = 4 * ((b / 2) * (b / 2) + b / 2) + 1 by grind]; omega
  omega
/-- The matrix's numbers stay small. -/
theorem inv_bd {a b c : Int} {t : RS} (h : DefInv a b c t) (hs : Small a b c) (ha : 0 < a) :
    (-1154701 ≤ t.m.p ∧ t.m.p ≤ 1154701) ∧ (-1154701 ≤ t.m.q ∧ t.m.q ≤ 1154701) ∧ (-1154701 ≤ t.m.r ∧ t.m.r ≤ 1154701) ∧ (-1154701 ≤ t.m.s ∧ t.m.s ≤ 1154701) := by
  have hd : disc a b c ≤ -3 := by rw [← h.dd]; exact disc_mod h.d
  have hc : 0 < c := pos_c (show disc a b c < 0 by omega) ha
  have hd' : disc c b a ≤ -3 := by rw [← disc_flip]; exact hd
  obtain ⟨_, a1, _, _, _, c1⟩ := hs
  obtain ⟨_, x1, _, _, _, z1⟩ := h.sm
  exact ⟨at_sq hd' (by rw [← at_flip]; exact h.f1) hc c1 x1 rfl, at_sq hd' (by rw [← at_flip]; exact h.f3) hc c1 z1 rfl, at_sq hd h.f1 ha a1 x1 rfl, at_sq hd h.f3 ha a1 z1 rfl⟩
theorem disc_made (a b c p q r s : Int) : disc (madeForm a b c p q r s).x (madeForm a b c p q r s).y (madeForm a b c p q r s).z = disc a b c * ((p * s - q * r) * (p * s - q * r)) := by
  unfold madeForm disc formAt formMid; grind
theorem made_mul (a b c : Int) (m n : M4) : madeForm (madeForm a b c m.p m.q m.r m.s).x (madeForm a b c m.p m.q m.r m.s).y (madeForm a b c m.p m.q m.r m.s).z n.p n.q n.r n.s = madeForm a b c (mulM m n).p (mulM m n).q (mulM m n).r (mulM m n).s := by
  unfold madeForm mulM formAt formMid
  simp only [F3.mk.injEq]
  refine ⟨by grind, by grind, by grind⟩
theorem det_mul (m n : M4) : (mulM m n).p * (mulM m n).s - (mulM m n).q * (mulM m n).r = (m.p * m.s - m.q * m.r) * (n.p * n.s - n.q * n.r) := by
  unfold mulM; grind
theorem det_step (f : F3) : (stepM f).p * (stepM f).s - (stepM f).q * (stepM f).r = 1 := by
  unfold stepM; split <;> simp
/-- A definite form that isn't reduced: swapped, or moved by k. -/
theorem step_S {f : F3} (h : inB f.y (-f.x + 1) f.x = true) (m : M4) : stepR ⟨f, m⟩ = ⟨⟨f.z, -f.y, f.x⟩, mulM m ⟨0, -1, 1, 0⟩⟩ := by
  unfold stepR stepM
  rw [if_pos h]
  simp [madeForm, formAt, formMid]
def stepK (f : F3) : Int := (-f.x - f.y) / (2 * f.x) + 1
theorem step_T {f : F3} (h : inB f.y (-f.x + 1) f.x = false) (m : M4) : stepR ⟨f, m⟩ = ⟨⟨f.x, f.y + 2 * f.x * stepK f, formAt f.x f.y f.z (stepK f) 1⟩, mulM m ⟨1, stepK f, 0, 1⟩⟩ := by
  unfold stepR stepM
  rw [if_neg (by rw [h]; simp)]
  simp only [madeForm, RS.mk.injEq, F3.mk.injEq]
  refine ⟨⟨?_, ?_, rfl⟩, rfl⟩
  · unfold formAt; grind
  · unfold formMid stepK; grind
/-- The moved middle number lies in -x + 1 .. x. -/
theorem stepK_in {f : F3} (hx : 0 < f.x) : -f.x < f.y + 2 * f.x * stepK f ∧ f.y + 2 * f.x * stepK f ≤ f.x := by
  have h1 := Int.emod_add_mul_ediv (-f.x - f.y) (2 * f.x)
  have h2 := Int.emod_nonneg (-f.x - f.y) (show 2 * f.x ≠ 0 by omega)
  have h3 := Int.emod_lt_of_pos (-f.x - f.y) (show 0 < 2 * f.x by omega)
  unfold stepK
  have h4 : 2 * f.x * ((-f.x - f.y) / (2 * f.x) + 1) = 2 * f.x * ((-f.x - f.y) / (2 * f.x)) + 2 * f.x := by grind
  omega
theorem stepK_bd {f : F3} (hx : 0 < f.x) (hs : Small f.x f.y f.z) : -1700000 ≤ stepK f ∧ stepK f ≤ 1700000 := by
  obtain ⟨_, a1, b0, b1, _, _⟩ := hs
  have h1 := stepK_in hx
  have h2 : -1000001 ≤ stepK f := by
    refine Int.not_lt.1 fun hh => ?_
    have := Int.mul_le_mul_of_nonneg_left (show stepK f ≤ -1000002 by omega) (show 0 ≤ 2 * f.x by omega)
    omega
  have h3 : stepK f ≤ 1000001 := by
    refine Int.not_lt.1 fun hh => ?_
    have := Int.mul_le_mul_of_nonneg_left (show 1000002 ≤ stepK f by omega) (show 0 ≤ 2 * f.x by omega)
    omega
  omega
theorem inv_step {a b c : Int} {t : RS} (h : DefInv a b c t) : DefInv a b c (stepR t) := by
  obtain ⟨f, m⟩ := t
  obtain ⟨sm, x0, z0, d, dd, f1, f2, f3, det⟩ := h
  simp only at *
  have hmade : madeForm a b c m.p m.q m.r m.s = f := by
    unfold madeForm; rw [f1, f2, f3]
  have hm2 : madeForm a b c (stepR ⟨f, m⟩).m.p (stepR ⟨f, m⟩).m.q (stepR ⟨f, m⟩).m.r (stepR ⟨f, m⟩).m.s = (stepR ⟨f, m⟩).f := by
    have := made_mul a b c m (stepM f)
    rw [hmade] at this
    exact this.symm
  have hdet : (stepR ⟨f, m⟩).m.p * (stepR ⟨f, m⟩).m.s - (stepR ⟨f, m⟩).m.q * (stepR ⟨f, m⟩).m.r = 1 := by
    have := det_mul m (stepM f)
    rw [det, det_step] at this
    simpa [stepR] using this
  have hdisc : disc (stepR ⟨f, m⟩).f.x (stepR ⟨f, m⟩).f.y (stepR ⟨f, m⟩).f.z = disc f.x f.y f.z := by
    have := disc_made f.x f.y f.z (stepM f).p (stepM f).q (stepM f).r (stepM f).s
    rw [det_step] at this
    simpa [stepR] using this
  have hfin : Small (stepR ⟨f, m⟩).f.x (stepR ⟨f, m⟩).f.y (stepR ⟨f, m⟩).f.z ∧ 0 < (stepR ⟨f, m⟩).f.x := by
    cases hi : inB f.y (-f.x + 1) f.x
    · have hk := @stepK_in f x0
      have hno := inB_no.1 hi
      have hT := step_T hi m
      rw [hT] at hdisc ⊢
      simp only at hdisc ⊢
      have hz : 0 < formAt f.x f.y f.z (stepK f) 1 := pos_c (b := f.y + 2 * f.x * stepK f) (a := f.x) (by rw [hdisc]; exact d) x0
      have hle : formAt f.x f.y f.z (stepK f) 1 ≤ f.z := by
        generalize formAt f.x f.y f.z (stepK f) 1 = z' at hdisc hz
        generalize f.y + 2 * f.x * stepK f = y' at hdisc hk
        have h1 : y' * y' ≤ f.y * f.y := by
          rcases Int.le_total 0 y' with h | h <;> rcases Int.le_total 0 f.y with h' | h'
          · exact mul_le_self h (by omega)
          · have := mul_le_self h (show y' ≤ -f.y by omega); rwa [Int.neg_mul_neg] at this
          · have := mul_le_self (show 0 ≤ -y' by omega) (show -y' ≤ f.y by omega); rwa [Int.neg_mul_neg] at this
          · have := mul_le_self (show 0 ≤ -y' by omega) (show -y' ≤ -f.y by omega); rwa [Int.neg_mul_neg, Int.neg_mul_neg] at this
        unfold disc at hdisc
        have h2 : 4 * f.x * z' ≤ 4 * f.x * f.z := by omega
        exact Int.le_of_mul_le_mul_left h2 (by omega)
      obtain ⟨a0, a1, b0, b1, c0, c1⟩ := sm
      exact ⟨⟨by omega, a1, by omega, by omega, by omega, by omega⟩, x0⟩
    · rw [step_S hi m]
      obtain ⟨a0, a1, b0, b1, c0, c1⟩ := sm
      exact ⟨⟨c0, c1, by simp only; omega, by simp only; omega, a0, a1⟩, z0⟩
  refine ⟨hfin.1, hfin.2, pos_c (by rw [hdisc]; exact d) hfin.2, by rw [hdisc]; exact d, by rw [hdisc]; exact dd, ?_, ?_, ?_, hdet⟩
  · exact congrArg F3.x hm2
  · exact congrArg F3.y hm2
  · exact congrArg F3.z hm2
theorem meas_step {a b c : Int} {t : RS} (h : DefInv a b c t) (hr : redB t.f.x t.f.y t.f.z = false) : meas (stepR t).f < meas t.f := by
  obtain ⟨f, m⟩ := t
  obtain ⟨sm, x0, z0, d, -, -, -, -, -⟩ := h
  simp only at *
  cases hi : inB f.y (-f.x + 1) f.x
  · have hk := @stepK_in f x0
    rw [step_T hi m]
    have hi2 : inB (f.y + 2 * f.x * stepK f) (-f.x + 1) f.x = true := inB_iff.2 (by omega)
    unfold meas
    simp only [hi, hi2]
    simp only [if_true, Bool.false_eq_true, if_false]
    split <;> omega
  · have hy := inB_iff.1 hi
    rw [step_S hi m]
    unfold redB at hr
    rw [if_pos ⟨d, x0⟩] at hr
    simp [redDef] at hr
    unfold meas
    simp only [hi, if_true]
    by_cases hxz : f.z < f.x
    · have : ∀ u : Int, u ≤ 3 → 4 * f.z + u < 4 * f.x + 1 := by intro u hu; omega
      have h1 := this (if inB (-f.y) (-f.z + 1) f.z = true then if -f.y < 0 then 2 else 1 else 3) (by split <;> (try split) <;> omega)
      split <;> omega
    · have hr2 := hr (by omega) (by omega) (by omega)
      have hyn : f.y < 0 := by omega
      have hxe : f.x = f.z := by
        have := hr2.2
        by_cases e : -f.y = f.x
        · omega
        · exact this e
      have hi2 : inB (-f.y) (-f.z + 1) f.z = true := inB_iff.2 (by omega)
      simp only [hi2, if_true]
      rw [if_neg (by omega), if_pos hyn]
      omega
theorem meas_pos {a b c : Int} {t : RS} (h : DefInv a b c t) : 0 ≤ meas t.f := by
  have := h.x0
  unfold meas
  split <;> (try split) <;> omega
/-- The reduced form and its matrix. -/
def reduceOf (a b c : Int) : RS := reduceN (meas ⟨a, b, c⟩).toNat ⟨⟨a, b, c⟩, ⟨1, 0, 0, 1⟩⟩
end Go.Proofs.YtjnkogkpdbgohaaGreatDoor
/- Plain: the way down the tree to a fraction. -/
namespace Go.Proofs.YtjnkogkpdbgohaaGreatDoor
structure Q4 where
  a : Int
  b : Int
  c : Int
  d : Int
/-- The way down from the parents a/b and c/d (α = c Q - d P, β = P b - Q a): the last parents and the letters (true: L). -/
inductive Tr : Q4 → Int → Int → Q4 → List Bool → Prop
  | stop {u : Q4} {α β : Int} : α = β → Tr u α β u []
  | left {u R : Q4} {α β : Int} {l : List Bool} : β < α → Tr ⟨u.a, u.b, u.a + u.c, u.b + u.d⟩ (α - β) β R l → Tr u α β R (true :: l)
  | right {u R : Q4} {α β : Int} {l : List Bool} : α < β → Tr ⟨u.a + u.c, u.b + u.d, u.c, u.d⟩ α (β - α) R l → Tr u α β R (false :: l)
theorem tr_ex : ∀ (k : Nat) (u : Q4) (α β : Int), 1 ≤ α → 1 ≤ β → (α + β).toNat ≤ k → ∃ R l, Tr u α β R l
  | 0, _, _, _, h1, h2, hk => by omega
  | k + 1, u, α, β, h1, h2, hk => by
    rcases Int.lt_trichotomy α β with h | h | h
    · obtain ⟨R, l, hr⟩ := tr_ex k ⟨u.a + u.c, u.b + u.d, u.c, u.d⟩ α (β - α) h1 (by omega) (by omega)
      exact ⟨R, _, .right h hr⟩
    · exact ⟨u, [], .stop h⟩
    · obtain ⟨R, l, hr⟩ := tr_ex k ⟨u.a, u.b, u.a + u.c, u.b + u.d⟩ (α - β) β (by omega) h2 (by omega)
      exact ⟨R, _, .left h hr⟩
/-- What holds on the way. -/
structure TrI (P Q : Int) (u : Q4) (α β : Int) : Prop where
  a0 : 0 ≤ u.a
  b0 : 0 ≤ u.b
  c0 : 0 ≤ u.c
  d0 : 0 ≤ u.d
  det : u.c * u.b - u.a * u.d = 1
  al : α = u.c * Q - u.d * P
  be : β = P * u.b - Q * u.a
  al1 : 1 ≤ α
  be1 : 1 ≤ β
theorem TrI.start {P Q : Int} (hP : 0 < P) (hQ : 0 < Q) : TrI P Q ⟨0, 1, 1, 0⟩ Q P :=
  ⟨by simp, by simp, by simp, by simp, by simp, by simp, by simp, by omega, by omega⟩
theorem TrI.p {P Q : Int} {u : Q4} {α β : Int} (h : TrI P Q u α β) : P = α * u.a + β * u.c ∧ Q = α * u.b + β * u.d := by
  obtain ⟨-, -, -, -, det, al, be, -, -⟩ := h
  have e1 : α * u.a + β * u.c = P * (u.c * u.b - u.a * u.d) := by rw [al, be]; grind
  have e2 : α * u.b + β * u.d = Q * (u.c * u.b - u.a * u.d) := by rw [al, be]; grind
  rw [e1, e2, det]; omega
theorem TrI.bd {P Q : Int} {u : Q4} {α β : Int} (h : TrI P Q u α β) : u.a + u.c ≤ P ∧ u.b + u.d ≤ Q := by
  obtain ⟨e1, e2⟩ := h.p
  obtain ⟨a0, b0, c0, d0, -, -, -, al1, be1⟩ := h
  have h1 := Int.mul_le_mul_of_nonneg_right al1 a0
  have h2 := Int.mul_le_mul_of_nonneg_right be1 c0
  have h3 := Int.mul_le_mul_of_nonneg_right al1 b0
  have h4 := Int.mul_le_mul_of_nonneg_right be1 d0
  omega
theorem TrI.left {P Q : Int} {u : Q4} {α β : Int} (h : TrI P Q u α β) (hl : β < α) : TrI P Q ⟨u.a, u.b, u.a + u.c, u.b + u.d⟩ (α - β) β := by
  obtain ⟨a0, b0, c0, d0, det, al, be, al1, be1⟩ := h
  refine ⟨a0, b0, by simp; omega, by simp; omega, ?_, ?_, be, by omega, be1⟩
  · show (u.a + u.c) * u.b - u.a * (u.b + u.d) = 1
    rw [← det]; grind
  · show α - β = (u.a + u.c) * Q - (u.b + u.d) * P
    rw [al, be]; grind
theorem TrI.right {P Q : Int} {u : Q4} {α β : Int} (h : TrI P Q u α β) (hl : α < β) : TrI P Q ⟨u.a + u.c, u.b + u.d, u.c, u.d⟩ α (β - α) := by
  obtain ⟨a0, b0, c0, d0, det, al, be, al1, be1⟩ := h
  refine ⟨by simp; omega, by simp; omega, c0, d0, ?_, al, ?_, al1, by omega⟩
  · show u.c * (u.b + u.d) - (u.a + u.c) * u.d = 1
    rw [← det]; grind
  · show β - α = P * (u.b + u.d) - Q * (u.a + u.c)
    rw [al, be]; grind
/-- The mediant against the fraction. -/
theorem TrI.cmp {P Q : Int} {u : Q4} {α β : Int} (h : TrI P Q u α β) : P * (u.b + u.d) - (u.a + u.c) * Q = β - α := by
  rw [h.al, h.be]; grind
theorem TrI.one {P Q : Int} {u : Q4} {α β : Int} (h : TrI P Q u α β) (hg : Int.gcd P Q = 1) (he : α = β) : u.a + u.c = P ∧ u.b + u.d = Q := by
  obtain ⟨e1, e2⟩ := h.p
  subst he
  have d1 : α ∣ P := ⟨u.a + u.c, by rw [e1]; grind⟩
  have d2 : α ∣ Q := ⟨u.b + u.d, by rw [e2]; grind⟩
  have h1 := Int.dvd_coe_gcd d1 d2
  rw [hg] at h1
  have h2 := Int.le_of_dvd (by omega) h1
  have h3 := h.al1
  obtain rfl : α = 1 := by omega
  omega
theorem TrI.hit {P Q : Int} {u : Q4} {α β : Int} (h : TrI P Q u α β) (hg : Int.gcd P Q = 1) : (u.a + u.c = P ∧ u.b + u.d = Q) ↔ α = β := by
  constructor
  · rintro ⟨e1, e2⟩
    have := h.cmp
    rw [e1, e2, Int.mul_comm P Q] at this
    omega
  · exact h.one hg
/-- Letters followed. -/
def fol : List Bool → Q4 → Q4
  | [], u => u
  | true :: l, u => fol l ⟨u.a, u.b, u.a + u.c, u.b + u.d⟩
  | false :: l, u => fol l ⟨u.a + u.c, u.b + u.d, u.c, u.d⟩
theorem Tr.fol {u R : Q4} {α β : Int} {l : List Bool} (h : Tr u α β R l) : fol l u = R := by
  induction h with
  | stop _ => rfl
  | left _ _ ih => exact ih
  | right _ _ ih => exact ih
theorem Tr.len {u R : Q4} {α β : Int} {l : List Bool} (h : Tr u α β R l) : 1 ≤ α → 1 ≤ β → (l.length : Int) + 2 ≤ α + β := by
  induction h with
  | stop e => intro h1 h2; simp; omega
  | left hlt _ ih => intro h1 h2; have := ih (by omega) h2; simp; omega
  | right hlt _ ih => intro h1 h2; have := ih h1 (by omega); simp; omega
/-- The end: parents that are neighbours, with the fraction between them as their mediant. -/
theorem Tr.last {P Q : Int} {u R : Q4} {α β : Int} {l : List Bool} (h : Tr u α β R l) (hI : TrI P Q u α β) : ∃ γ, TrI P Q R γ γ := by
  induction h with
  | stop e => subst e; exact ⟨_, hI⟩
  | left hlt _ ih => exact ih (hI.left hlt)
  | right hlt _ ih => exact ih (hI.right hlt)
end Go.Proofs.YtjnkogkpdbgohaaGreatDoor
