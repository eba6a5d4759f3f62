/- Plain facts that the walks lean on, without the program: numbers, entries, forms, primes, normal pairs, cosets, cycles. No condition beyond each theorem's own. -/
import Derived.Lib.Repeat
import Derived.Lib.MinMaxS
import Derived.Lib.SlicesCompact
import Derived.Lib.RowBridge
/- Facts about whole numbers, no program in sight. -/
namespace Go.Proofs.Ytencfmipplgnkaa
theorem mul_bd {a b A B : Int} (h1 : -A ≤ a) (h2 : a ≤ A) (h3 : -B ≤ b) (h4 : b ≤ B) : -(A * B) ≤ a * b ∧ a * b ≤ A * B := by
  have hA : 0 ≤ A := by omega
  have hB : 0 ≤ B := by omega
  have e : ∀ x y X Y : Int, 0 ≤ X → 0 ≤ Y → -X ≤ x → x ≤ X → -Y ≤ y → y ≤ Y → x * y ≤ X * Y := by
    intro x y X Y hX hY a1 a2 b1 b2
    rcases Int.le_total 0 x with h | h
    · exact Int.le_trans (Int.mul_le_mul_of_nonneg_left b2 h) (Int.mul_le_mul_of_nonneg_right a2 hY)
    · have : x * y = (-x) * (-y) := by rw [Int.neg_mul_neg]
      rw [this]
      exact Int.le_trans (Int.mul_le_mul_of_nonneg_left (show -y ≤ Y by omega) (show 0 ≤ -x by omega)) (Int.mul_le_mul_of_nonneg_right (show -x ≤ X by omega) hY)
  refine ⟨?_, e a b A B hA hB h1 h2 h3 h4⟩
  have := e (-a) b A B hA hB (by omega) (by omega) h3 h4
  rw [Int.neg_mul] at this
  omega
theorem sq_nn (a : Int) : 0 ≤ a * a := by
  rcases Int.le_total 0 a with h | h
  · exact Int.mul_nonneg h h
  · have : a * a = (-a) * (-a) := by rw [Int.neg_mul_neg]
    rw [this]; exact Int.mul_nonneg (by omega) (by omega)
def allB (n : Nat) (f : Nat → Bool) : Bool := (List.range n).all f
theorem allB_succ {n : Nat} {f : Nat → Bool} (h : allB n f = true) (h1 : f n = true) : allB (n + 1) f = true := by
  unfold allB at *; rw [List.range_succ, List.all_append, h]; simp [h1]
theorem allB_false {n k : Nat} {f : Nat → Bool} (hk : k < n) (h1 : f k = false) : allB n f = false := by
  unfold allB; rw [List.all_eq_false]; exact ⟨k, by simpa using hk, by simp [h1]⟩
def inB (n a b : Int) : Bool := decide (a ≤ n) && decide (n ≤ b)
def entB (n : Int) : Bool := inB n (-1000000000) 1000000000
theorem entB_iff {n : Int} : entB n = true ↔ -1000000000 ≤ n ∧ n ≤ 1000000000 := by simp [entB, inB]
theorem entB_no {n : Int} : entB n = false ↔ ¬ (-1000000000 ≤ n ∧ n ≤ 1000000000) := by rw [← entB_iff]; simp
def isMat (a b c d : Int) : Bool := entB a && (entB b && (entB c && (entB d && a * d - b * c == 1)))
structure IsMat (a b c d : Int) : Prop where
  a0 : -1000000000 ≤ a
  a1 : a ≤ 1000000000
  b0 : -1000000000 ≤ b
  b1 : b ≤ 1000000000
  c0 : -1000000000 ≤ c
  c1 : c ≤ 1000000000
  d0 : -1000000000 ≤ d
  d1 : d ≤ 1000000000
  det : a * d - b * c = 1
theorem isMat_iff {a b c d : Int} : isMat a b c d = true ↔ IsMat a b c d := by
  simp only [isMat, Bool.and_eq_true, entB_iff, beq_iff_eq]
  exact ⟨fun ⟨⟨h1, h2⟩, ⟨h3, h4⟩, ⟨h5, h6⟩, ⟨h7, h8⟩, h9⟩ => ⟨h1, h2, h3, h4, h5, h6, h7, h8, h9⟩, fun h => ⟨⟨h.a0, h.a1⟩, ⟨h.b0, h.b1⟩, ⟨h.c0, h.c1⟩, ⟨h.d0, h.d1⟩, h.det⟩⟩
def kindOf (a b c d : Int) : Int := if b = 0 ∧ c = 0 then 0 else if (a + d).natAbs < 2 then 1 else if (a + d).natAbs = 2 then 2 else 3
theorem diag {a b c d : Int} (h : a * d - b * c = 1) (hb : b = 0) (hc : c = 0) : (a = 1 ∧ d = 1) ∨ (a = -1 ∧ d = -1) := by
  subst hb; subst hc
  have h1 : a * d = 1 := by simpa using h
  have h2 := congrArg Int.natAbs h1
  rw [Int.natAbs_mul] at h2
  obtain ⟨h3, h4⟩ : a.natAbs = 1 ∧ d.natAbs = 1 := ⟨Nat.eq_one_of_mul_eq_one_left (by rw [Nat.mul_comm]; exact h2), Nat.eq_one_of_mul_eq_one_left h2⟩
  rcases (show a = 1 ∨ a = -1 by omega) with h5 | h5
  · subst h5; left; exact ⟨rfl, by simpa using h1⟩
  · subst h5; right; exact ⟨rfl, by omega⟩
def isForm (a b c : Int) : Bool := inB a (-1000000) 1000000 && (inB b (-1000000) 1000000 && (inB c (-1000000) 1000000 && !(a == 0 && (b == 0 && c == 0))))
structure Small (a b c : Int) : Prop where
  a0 : -1000000 ≤ a
  a1 : a ≤ 1000000
  b0 : -1000000 ≤ b
  b1 : b ≤ 1000000
  c0 : -1000000 ≤ c
  c1 : c ≤ 1000000
theorem small_of {a b c : Int} (h : isForm a b c = true) : Small a b c := by
  simp [isForm, inB] at h
  exact ⟨by omega, by omega, by omega, by omega, by omega, by omega⟩
def formAt (a b c x y : Int) : Int := a * x * x + b * x * y + c * y * y
def formMid (a b c p q r s : Int) : Int := 2 * a * p * q + b * (p * s + q * r) + 2 * c * r * s
def smallB (a b c : Int) : Bool := inB a (-1000000) 1000000 && (inB b (-1000000) 1000000 && inB c (-1000000) 1000000)
end Go.Proofs.Ytencfmipplgnkaa
namespace Go.Proofs.Ytencfmipplgnkaa
def smallM (p q r s : Int) : Bool := inB p (-1000) 1000 && (inB q (-1000) 1000 && (inB r (-1000) 1000 && inB s (-1000) 1000))
theorem smallM_iff {p q r s : Int} : smallM p q r s = true ↔ (-1000 ≤ p ∧ p ≤ 1000) ∧ (-1000 ≤ q ∧ q ≤ 1000) ∧ (-1000 ≤ r ∧ r ≤ 1000) ∧ (-1000 ≤ s ∧ s ≤ 1000) := by simp [smallM, inB]
theorem smallM_no {p q r s : Int} : smallM p q r s = false ↔ ¬ ((-1000 ≤ p ∧ p ≤ 1000) ∧ (-1000 ≤ q ∧ q ≤ 1000) ∧ (-1000 ≤ r ∧ r ≤ 1000) ∧ (-1000 ≤ s ∧ s ≤ 1000)) := by rw [← smallM_iff]; simp
end Go.Proofs.Ytencfmipplgnkaa
namespace Go.Proofs.Ytencfmipplgnkaa
def discOf (a b c : Int) : Int × Int := if isForm a b c = true then (b * b - 4 * a * c, 0) else (0, 1)
theorem discOf_no {a b c : Int} (h : isForm a b c = false) : discOf a b c = (0, 1) := by simp [discOf, h]
theorem discOf_yes {a b c : Int} (h : isForm a b c = true) : discOf a b c = (b * b - 4 * a * c, 0) := by simp [discOf, h]
end Go.Proofs.Ytencfmipplgnkaa
namespace Go.Proofs.Ytencfmipplgnkaa
def valAt (a b c x y : Int) : Int × Int := if isForm a b c = true then (if inB x (-1000) 1000 = true then (if inB y (-1000) 1000 = true then (formAt a b c x y, 0) else (0, 2)) else (0, 2)) else (0, 1)
theorem inB_iff {n a b : Int} : inB n a b = true ↔ a ≤ n ∧ n ≤ b := by simp [inB]
theorem inB_no {n a b : Int} : inB n a b = false ↔ ¬ (a ≤ n ∧ n ≤ b) := by rw [← inB_iff]; simp
/-- What 'applied' and 'l05Code' say. -/
def appliedCode (a b c p q r s : Int) : Int := if isForm a b c = true then (if isMat p q r s = true then (if smallM p q r s = true then 0 else 2) else 1) else 1
structure F3 where
  x : Int
  y : Int
  z : Int
  deriving DecidableEq
def madeForm (a b c p q r s : Int) : F3 := ⟨formAt a b c p r, formMid a b c p q r s, formAt a b c q s⟩
def applyM (a b c p q r s : Int) : F3 × Int :=
  if appliedCode a b c p q r s = 0 then (if smallB (madeForm a b c p q r s).x (madeForm a b c p q r s).y (madeForm a b c p q r s).z = true then (madeForm a b c p q r s, 0) else (⟨0, 0, 0⟩, 3)) else (⟨0, 0, 0⟩, appliedCode a b c p q r s)
def keepsF (a b c p q r s : Int) : Bool × Int :=
  if appliedCode a b c p q r s = 0 then ((formAt a b c p r == a && (formMid a b c p q r s == b && formAt a b c q s == c)), 0) else (false, appliedCode a b c p q r s)
end Go.Proofs.Ytencfmipplgnkaa
/- Plain facts on made forms. -/
namespace Go.Proofs.Ytencfmipplgnkaa
theorem made_bd {a b c p q r s : Int} (h : Small a b c) (hs : smallM p q r s = true) :
    (-9000000000000000000 ≤ formAt a b c p r ∧ formAt a b c p r ≤ 9000000000000000000) ∧ (-9000000000000000000 ≤ formMid a b c p q r s ∧ formMid a b c p q r s ≤ 9000000000000000000) ∧ (-9000000000000000000 ≤ formAt a b c q s ∧ formAt a b c q s ≤ 9000000000000000000) := by
  obtain ⟨a0, a1, b0, b1, c0, c1⟩ := h
  obtain ⟨⟨p0, p1⟩, ⟨q0, q1⟩, ⟨r0, r1⟩, s0, s1⟩ := smallM_iff.1 hs
  have at_ : ∀ x y : Int, -1000 ≤ x → x ≤ 1000 → -1000 ≤ y → y ≤ 1000 → -9000000000000000000 ≤ formAt a b c x y ∧ formAt a b c x y ≤ 9000000000000000000 := by
    intro x y x0 x1 y0 y1
    have e1 := mul_bd a0 a1 x0 x1
    have e2 := mul_bd e1.1 e1.2 x0 x1
    have e3 := mul_bd b0 b1 x0 x1
    have e4 := mul_bd e3.1 e3.2 y0 y1
    have e5 := mul_bd c0 c1 y0 y1
    have e6 := mul_bd e5.1 e5.2 y0 y1
    unfold formAt
    omega
  refine ⟨at_ p r p0 p1 r0 r1, ?_, at_ q s q0 q1 s0 s1⟩
  have e1 := mul_bd (a := 2 * a) (b := p) (A := 2000000) (B := 1000) (by omega) (by omega) p0 p1
  have e2 := mul_bd e1.1 e1.2 q0 q1
  have e3 := mul_bd p0 p1 s0 s1
  have e4 := mul_bd q0 q1 r0 r1
  have e5 := mul_bd (a := b) (b := p * s + q * r) (A := 1000000) (B := 2000000) b0 b1 (by omega) (by omega)
  have e6 := mul_bd (a := 2 * c) (b := r) (A := 2000000) (B := 1000) (by omega) (by omega) r0 r1
  have e7 := mul_bd e6.1 e6.2 s0 s1
  unfold formMid
  omega
/-- A matrix with the determinant 1 makes no form 0. -/
theorem made_ne {a b c p q r s : Int} (h : isForm a b c = true) (hd : p * s - q * r = 1) : ¬ (formAt a b c p r = 0 ∧ formMid a b c p q r s = 0 ∧ formAt a b c q s = 0) := by
  rintro ⟨h1, h2, h3⟩
  have ha : a = formAt a b c p r * s * s - formMid a b c p q r s * s * r + formAt a b c q s * r * r := by
    have : a = a * ((p * s - q * r) * (p * s - q * r)) := by rw [hd]; simp
    unfold formAt formMid
    grind
  have hc : c = formAt a b c p r * q * q - formMid a b c p q r s * p * q + formAt a b c q s * p * p := by
    have : c = c * ((p * s - q * r) * (p * s - q * r)) := by rw [hd]; simp
    unfold formAt formMid
    grind
  have hb : b = -2 * formAt a b c p r * q * s + formMid a b c p q r s * (p * s + q * r) - 2 * formAt a b c q s * p * r := by
    have : b = b * ((p * s - q * r) * (p * s - q * r)) := by rw [hd]; simp
    unfold formAt formMid
    grind
  rw [h1, h2, h3] at ha hb hc
  simp at ha hb hc
  subst ha; subst hb; subst hc
  simp [isForm] at h
theorem small_form {a b c : Int} (h : ¬ (a = 0 ∧ b = 0 ∧ c = 0)) : isForm a b c = smallB a b c := by
  rw [Bool.eq_iff_iff]
  simp [isForm, smallB, inB]
  omega
theorem appliedCode_0 {a b c p q r s : Int} (h : appliedCode a b c p q r s = 0) : isForm a b c = true ∧ isMat p q r s = true ∧ smallM p q r s = true := by
  unfold appliedCode at h
  split at h
  · split at h
    · split at h
      · exact ⟨‹_›, ‹_›, ‹_›⟩
      · omega
    · omega
  · omega
theorem appliedCode_yes {a b c p q r s : Int} (h1 : isForm a b c = true) (h2 : isMat p q r s = true) (h3 : smallM p q r s = true) : appliedCode a b c p q r s = 0 := by simp [appliedCode, h1, h2, h3]
end Go.Proofs.Ytencfmipplgnkaa
namespace Go.Proofs.Ytencfmipplgnkaa
/-- What an int64 holds. -/
def I64 (x : Int) : Prop := -9223372036854775808 ≤ x ∧ x ≤ 9223372036854775807
end Go.Proofs.Ytencfmipplgnkaa
/- Plain facts: rests, quotients rounded down, greatest common divisors. -/
namespace Go.Proofs.Ytencfmipplgnkaa
theorem tmod_bd {a n : Int} (hn : 0 < n) : -n < a.tmod n ∧ a.tmod n < n := by
  have h1 := Int.natAbs_tmod a n
  have h2 : a.natAbs % n.natAbs < n.natAbs := Nat.mod_lt _ (by omega)
  omega
theorem rest_eq {a n : Int} (hn : 0 < n) : (a.tmod n + n).tmod n = a % n := by
  have h := @tmod_bd a n hn
  rw [Int.tmod_eq_emod_of_nonneg (by omega), Int.add_emod_right, Int.tmod_eq_emod]
  split
  · simp
  · rw [Int.sub_emod, Int.emod_emod_of_dvd _ (Int.dvd_refl n)]
    have : (n.natAbs : Int) = n := by omega
    rw [this, Int.emod_self]; simp
theorem rest_eq' {a n : Int} (hn : 0 < n) : (a.tmod n + n) % n = a % n := by
  have h := @tmod_bd a n hn
  have h2 := @rest_eq a n hn
  rw [Int.tmod_eq_emod_of_nonneg (by omega)] at h2
  exact h2
theorem ediv_bd {a b K : Int} (hb : 0 < b) (h1 : -K ≤ a) (h2 : a ≤ K) : -K ≤ a / b ∧ a / b ≤ K := by
  rcases Int.le_total 0 a with h | h
  · have := Int.ediv_nonneg h (Int.le_of_lt hb)
    have := Int.ediv_le_self b h
    omega
  · have h3 : a ≤ a / b := (Int.le_ediv_iff_mul_le hb).2 (by
      have := Int.mul_le_mul_of_nonpos_left h (show (1 : Int) ≤ b by omega)
      omega)
    have h4 : a / b ≤ 0 := Int.ediv_nonpos_of_nonpos_of_neg h (by omega)
    omega
theorem floor_t {a b : Int} (hb : 0 < b) (h : a.tmod b ≠ 0) (ha : a < 0) : a.tdiv b - 1 = a / b := by
  rw [Int.tdiv_eq_ediv]
  have : ¬ (0 ≤ a ∨ b ∣ a) := by
    rintro (h1 | h1)
    · omega
    · exact h (Int.tmod_eq_zero_of_dvd h1)
  rw [if_neg this, Int.sign_eq_one_of_pos hb]; omega
theorem floor_z {a b : Int} (h : a.tmod b = 0) : a.tdiv b = a / b := by
  rw [Int.tdiv_eq_ediv, if_pos (.inr (Int.dvd_of_tmod_eq_zero h))]; omega
theorem floor_p {a b : Int} (h : 0 ≤ a) : a.tdiv b = a / b := Int.tdiv_eq_ediv_of_nonneg h
theorem gcd_step {p q : Int} (_hq : q ≠ 0) : Int.gcd q (p.tmod q) = Int.gcd p q := by
  show Nat.gcd q.natAbs (p.tmod q).natAbs = Nat.gcd p.natAbs q.natAbs
  rw [Int.natAbs_tmod, Nat.gcd_comm p.natAbs, Nat.gcd_rec q.natAbs p.natAbs, Nat.gcd_comm]
theorem tmod_lt {p q : Int} (hq : q ≠ 0) : (p.tmod q).natAbs < q.natAbs := by
  rw [Int.natAbs_tmod]; exact Nat.mod_lt _ (by omega)
theorem gcd_zero' {p q : Int} (hq : q = 0) : (Int.gcd p q : Int) = p.natAbs := by subst hq; simp
theorem tmod_small {p q K : Int} (hq : q ≠ 0) (h1 : -K ≤ q) (h2 : q ≤ K) : -K ≤ p.tmod q ∧ p.tmod q ≤ K := by
  have := @tmod_lt p q hq
  omega
end Go.Proofs.Ytencfmipplgnkaa
/- Plain facts: the form of a matrix. -/
namespace Go.Proofs.Ytencfmipplgnkaa
theorem tdiv_bd {a b K : Int} (h1 : -K ≤ a) (h2 : a ≤ K) : -K ≤ a.tdiv b ∧ a.tdiv b ≤ K := by
  have h3 : (a.tdiv b).natAbs = a.natAbs / b.natAbs := by rw [Int.natAbs_tdiv]; rfl
  have h4 : a.natAbs / b.natAbs ≤ a.natAbs := Nat.div_le_self _ _
  omega
def formGcd (a b c d : Int) : Int := (Int.gcd (Int.gcd c (d - a)) (-b) : Int)
/-- What FormOfMatrix says of a matrix that is one. -/
def formOfM (a b c d : Int) : F3 × Int :=
  if kindOf a b c d = 0 then (⟨0, 0, 0⟩, 5) else
  if smallB (c.tdiv (formGcd a b c d)) ((d - a).tdiv (formGcd a b c d)) (-(b.tdiv (formGcd a b c d))) = true then (⟨c.tdiv (formGcd a b c d), (d - a).tdiv (formGcd a b c d), -(b.tdiv (formGcd a b c d))⟩, 0) else (⟨0, 0, 0⟩, 3)
theorem kind_ne {a b c d : Int} (h : kindOf a b c d ≠ 0) : ¬ (b = 0 ∧ c = 0) := fun hh => h (by unfold kindOf; rw [if_pos hh])
theorem kind_0 {a b c d : Int} (h : kindOf a b c d = 0) : b = 0 ∧ c = 0 := by
  unfold kindOf at h
  split at h
  · assumption
  · split at h
    · omega
    · split at h <;> omega
theorem formGcd_dvd (a b c d : Int) : formGcd a b c d ∣ c ∧ formGcd a b c d ∣ d - a ∧ formGcd a b c d ∣ -b := by
  unfold formGcd
  refine ⟨Int.dvd_trans (Int.gcd_dvd_left _ _) (Int.gcd_dvd_left _ _), Int.dvd_trans (Int.gcd_dvd_left _ _) (Int.gcd_dvd_right _ _), Int.gcd_dvd_right _ _⟩
theorem formGcd_pos {a b c d : Int} (h : ¬ (b = 0 ∧ c = 0)) : 1 ≤ formGcd a b c d := by
  have h0 : 0 ≤ formGcd a b c d := by unfold formGcd; omega
  have h1 : formGcd a b c d ≠ 0 := by
    intro e
    obtain ⟨d1, _, d3⟩ := formGcd_dvd a b c d
    rw [e] at d1 d3
    have := Int.zero_dvd.1 d1
    have := Int.zero_dvd.1 d3
    exact h ⟨by omega, by omega⟩
  omega
theorem formGcd_le {a b c d : Int} (h : IsMat a b c d) (hn : ¬ (b = 0 ∧ c = 0)) : formGcd a b c d ≤ 1000000000 := by
  obtain ⟨d1, _, d3⟩ := formGcd_dvd a b c d
  obtain ⟨_, _, b0, b1, c0, c1, _⟩ := h
  by_cases hb : b = 0
  · have hc : c ≠ 0 := fun e => hn ⟨hb, e⟩
    rcases Int.lt_or_gt_of_ne hc with h1 | h1
    · have := Int.le_of_dvd (show 0 < -c by omega) (Int.dvd_neg.2 d1); omega
    · have := Int.le_of_dvd h1 d1; omega
  · rcases Int.lt_or_gt_of_ne hb with h1 | h1
    · have := Int.le_of_dvd (show 0 < -b by omega) d3; omega
    · have := Int.le_of_dvd h1 (Int.dvd_neg.1 d3); omega
theorem formOf_ne {a b c d : Int} (h : ¬ (b = 0 ∧ c = 0)) : ¬ (c.tdiv (formGcd a b c d) = 0 ∧ (d - a).tdiv (formGcd a b c d) = 0 ∧ -(b.tdiv (formGcd a b c d)) = 0) := by
  rintro ⟨h1, _, h3⟩
  rw [← Int.neg_tdiv] at h3
  obtain ⟨d1, _, d3⟩ := formGcd_dvd a b c d
  have e1 := Int.mul_tdiv_cancel' d1
  have e3 := Int.mul_tdiv_cancel' d3
  rw [h1] at e1
  rw [h3] at e3
  exact h ⟨by omega, by omega⟩
end Go.Proofs.Ytencfmipplgnkaa
namespace Go.Proofs.Ytencfmipplgnkaa
def formOfMat (a b c d : Int) : F3 × Int := if isMat a b c d = true then formOfM a b c d else (⟨0, 0, 0⟩, 1)
end Go.Proofs.Ytencfmipplgnkaa
/- Plain facts: fractions. -/
namespace Go.Proofs.Ytencfmipplgnkaa
def isFrac (p q : Int) : Bool := entB p && (inB q 0 1000000000 && ((Int.gcd p q : Int) == 1 && (decide (0 < q) || p == 1)))
def fx (p q : Int) : Int := p.tdiv (Int.gcd p q : Int)
def fy (p q : Int) : Int := q.tdiv (Int.gcd p q : Int)
theorem gcd_pos_right {p q : Int} (h : 0 < q) : 0 < (Int.gcd p q : Int) := by
  have := Int.gcd_pos_of_ne_zero_right p (show q ≠ 0 by omega)
  omega
structure FracBd (p q K : Int) : Prop where
  g : 0 < (Int.gcd p q : Int)
  x0 : -K ≤ fx p q
  x1 : fx p q ≤ K
  y0 : -K ≤ fy p q
  y1 : fy p q ≤ K
theorem fracBd {p q K : Int} (h : 0 < q) (p0 : -K ≤ p) (p1 : p ≤ K) (q1 : q ≤ K) : FracBd p q K :=
  ⟨gcd_pos_right h, (tdiv_bd p0 p1).1, (tdiv_bd p0 p1).2, (tdiv_bd (a := q) (K := K) (by omega) q1).1, (tdiv_bd (a := q) (K := K) (by omega) q1).2⟩
theorem isFrac_iff {p q : Int} : isFrac p q = true ↔ (-1000000000 ≤ p ∧ p ≤ 1000000000) ∧ (0 ≤ q ∧ q ≤ 1000000000) ∧ (Int.gcd p q : Int) = 1 ∧ (0 < q ∨ p = 1) := by
  simp [isFrac, entB, inB]
end Go.Proofs.Ytencfmipplgnkaa
/- Plain: the matrices with small numbers, in their order. -/
namespace Go.Proofs.Ytencfmipplgnkaa
structure Q4 where
  a : Int
  b : Int
  c : Int
  d : Int
def stepsL {α : Type} (n : Int) (f : Int → List α) : Nat → List α
  | 0 => []
  | m + 1 => stepsL n f m ++ f (m - n)
theorem stepsL_len {α : Type} (n : Int) (f : Int → List α) (K : Nat) (h : ∀ x, (f x).length ≤ K) : ∀ m, (stepsL n f m).length ≤ m * K
  | 0 => by simp [stepsL]
  | m + 1 => by
    have := stepsL_len n f K h m
    have := h (m - n)
    rw [stepsL, List.length_append, Nat.succ_mul]; omega
theorem stepsL_mem {α : Type} {n : Int} {f : Int → List α} {x : α} : ∀ {m : Nat}, x ∈ stepsL n f m → ∃ i : Nat, i < m ∧ x ∈ f (i - n)
  | 0, h => by simp [stepsL] at h
  | m + 1, h => by
    rw [stepsL, List.mem_append] at h
    rcases h with h | h
    · obtain ⟨i, h1, h2⟩ := stepsL_mem h
      exact ⟨i, by omega, h2⟩
    · exact ⟨m, by omega, h⟩
def mat1 (a b c d : Int) : List Q4 := if a * d - b * c = 1 then [⟨a, b, c, d⟩] else []
theorem mat1_yes {a b c d : Int} (h : a * d - b * c = 1) : mat1 a b c d = [⟨a, b, c, d⟩] := if_pos h
theorem mat1_no {a b c d : Int} (h : ¬ a * d - b * c = 1) : mat1 a b c d = [] := if_neg h
def matD (K : Nat) (a b c : Int) : Nat → List Q4 := stepsL K (mat1 a b c)
def matC (K : Nat) (a b : Int) : Nat → List Q4 := stepsL K fun c => matD K a b c (2 * K + 1)
def matB (K : Nat) (a : Int) : Nat → List Q4 := stepsL K fun b => matC K a b (2 * K + 1)
def matA (K : Nat) : Nat → List Q4 := stepsL K fun a => matB K a (2 * K + 1)
def matsL (K : Nat) : List Q4 := matA K (2 * K + 1)
theorem matD_len {K l : Nat} (hl : l ≤ 7) (a b c : Int) : (matD K a b c l).length ≤ 7 := by
  have := stepsL_len (K : Int) (mat1 a b c) 1 (fun x => by unfold mat1; split <;> simp) l
  unfold matD; omega
theorem matC_len {K : Nat} (hK : K ≤ 3) {l : Nat} (hl : l ≤ 7) (a b : Int) : (matC K a b l).length ≤ 49 := by
  have := stepsL_len (K : Int) (fun c => matD K a b c (2 * K + 1)) 7 (fun x => matD_len (by omega) a b x) l
  unfold matC; omega
theorem matB_len {K : Nat} (hK : K ≤ 3) {l : Nat} (hl : l ≤ 7) (a : Int) : (matB K a l).length ≤ 343 := by
  have := stepsL_len (K : Int) (fun b => matC K a b (2 * K + 1)) 49 (fun x => matC_len hK (by omega) a x) l
  unfold matB; omega
theorem matA_len {K : Nat} (hK : K ≤ 3) {l : Nat} (hl : l ≤ 7) : (matA K l).length ≤ 2401 := by
  have := stepsL_len (K : Int) (fun a => matB K a (2 * K + 1)) 343 (fun x => matB_len hK (by omega) x) l
  unfold matA; omega
theorem mat_len {K : Nat} (hK : K ≤ 3) {i j k l : Nat} (hi : i ≤ 7) (hj : j ≤ 7) (hk : k ≤ 7) (hl : l ≤ 7) (a b c : Int) : (matA K i ++ matB K a j ++ matC K a b k ++ matD K a b c l).length ≤ 10000 := by
  have := matA_len hK hi
  have := matB_len hK hj a
  have := matC_len hK hk a b
  have := matD_len (K := K) hl a b c
  simp only [List.length_append]; omega
structure Small4 (q : Q4) : Prop where
  a : -3 ≤ q.a ∧ q.a ≤ 3
  b : -3 ≤ q.b ∧ q.b ≤ 3
  c : -3 ≤ q.c ∧ q.c ≤ 3
  d : -3 ≤ q.d ∧ q.d ≤ 3
theorem matsL_small {K : Nat} (hK : K ≤ 3) {q : Q4} (h : q ∈ matsL K) : Small4 q := by
  obtain ⟨i, hi, h⟩ := stepsL_mem h
  obtain ⟨j, hj, h⟩ := stepsL_mem h
  obtain ⟨k, hk, h⟩ := stepsL_mem h
  obtain ⟨l, hl, h⟩ := stepsL_mem h
  unfold mat1 at h
  split at h
  · simp only [List.mem_singleton] at h
    subst h
    constructor <;> simp only <;> omega
  · simp at h
def flat4 (l : List Q4) : List Int := l.flatMap fun f => [f.a, f.b, f.c, f.d]
theorem flat4_len (l : List Q4) : (flat4 l).length = l.length * 4 := by
  induction l with
  | nil => rfl
  | cons f l ih => simp only [flat4, List.flatMap_cons, List.length_append, List.length_cons] at *; simp at *; omega
theorem flat4_snoc (l : List Q4) (f : Q4) : flat4 (l ++ [f]) = flat4 l ++ [f.a, f.b, f.c, f.d] := by simp [flat4]
theorem flat4_append (l m : List Q4) : flat4 (l ++ m) = flat4 l ++ flat4 m := by simp [flat4]
theorem flat4_at {l m : List Q4} {f : Q4} : (flat4 (l ++ f :: m)).getD (l.length * 4) 0 = f.a ∧ (flat4 (l ++ f :: m)).getD (l.length * 4 + 1) 0 = f.b ∧ (flat4 (l ++ f :: m)).getD (l.length * 4 + 2) 0 = f.c ∧ (flat4 (l ++ f :: m)).getD (l.length * 4 + 3) 0 = f.d := by
  have e : flat4 (l ++ f :: m) = flat4 l ++ ([f.a, f.b, f.c, f.d] ++ flat4 m) := by simp [flat4]
  rw [e, ← flat4_len]
  refine ⟨?_, ?_, ?_, ?_⟩ <;> simp [List.getD]
/-- g leads m to n. -/
def leads (m n g : Q4) : Bool :=
  g.a * m.a + g.b * m.c == n.a * g.a + n.b * g.c && (g.a * m.b + g.b * m.d == n.a * g.b + n.b * g.d && (g.c * m.a + g.d * m.c == n.c * g.a + n.d * g.c && g.c * m.b + g.d * m.d == n.c * g.b + n.d * g.d))
def findQ (m n : Q4) : List Q4 → Option Q4
  | [] => none
  | g :: l => if leads m n g = true then some g else findQ m n l
end Go.Proofs.Ytencfmipplgnkaa
/- Plain: words over two letters and the positive matrices of determinant 1. -/
namespace Go.Proofs.Ytencfmipplgnkaa
theorem Q4.same {m n : Q4} (h1 : m.a = n.a) (h2 : m.b = n.b) (h3 : m.c = n.c) (h4 : m.d = n.d) : m = n := by
  cases m; cases n; simp only at h1 h2 h3 h4; subst h1 h2 h3 h4; rfl
/-- A letter ahead of a matrix: true is T, false is L. -/
def letM (b : Bool) (m : Q4) : Q4 := if b then ⟨m.a + m.c, m.b + m.d, m.c, m.d⟩ else ⟨m.a, m.b, m.a + m.c, m.b + m.d⟩
def wM : List Bool → Q4
  | [] => ⟨1, 0, 0, 1⟩
  | b :: l => letM b (wM l)
structure Pos (m : Q4) : Prop where
  a : 1 ≤ m.a
  b : 0 ≤ m.b
  c : 0 ≤ m.c
  d : 1 ≤ m.d
  det : m.a * m.d - m.b * m.c = 1
theorem letM_pos (b : Bool) {m : Q4} (h : Pos m) : Pos (letM b m) := by
  obtain ⟨h1, h2, h3, h4, h5⟩ := h
  cases b <;> constructor <;> simp only [letM, if_true, Bool.false_eq_true, if_false] <;> first | omega | grind
theorem wM_pos : ∀ l, Pos (wM l)
  | [] => ⟨by decide, by decide, by decide, by decide, by decide⟩
  | b :: l => letM_pos b (wM_pos l)
theorem pos_cases {m : Q4} (h : Pos m) : m = ⟨1, 0, 0, 1⟩ ∨ (m.c < m.a ∧ m.d ≤ m.b) ∨ (m.a ≤ m.c ∧ m.b < m.d) := by
  obtain ⟨a, b, c, d⟩ := m
  obtain ⟨h1, h2, h3, h4, h5⟩ := h
  simp only at *
  by_cases p : c < a
  · by_cases q : d ≤ b
    · exact .inr (.inl ⟨p, q⟩)
    · left
      have e : (a - 1 - c) * (d - 1) ≥ 0 := Int.mul_nonneg (by omega) (by omega)
      have e' : c * (d - 1 - b) ≥ 0 := Int.mul_nonneg (by omega) (by omega)
      have e2 : (a - 1 - c) * (d - 1) + c * (d - 1 - b) = a * d - b * c - a - d + 1 := by grind
      have ha : a = 1 := by omega
      have hd : d = 1 := by omega
      have hb : b = 0 := by omega
      have hc : c = 0 := by omega
      subst ha hd hb hc; rfl
  · right; right
    refine ⟨by omega, ?_⟩
    apply Int.not_le.1
    intro q
    have e : (c - a) * d ≥ 0 := Int.mul_nonneg (by omega) (by omega)
    have e' : c * (b - d) ≥ 0 := Int.mul_nonneg (by omega) (by omega)
    have e2 : (c - a) * d + c * (b - d) = -(a * d - b * c) := by grind
    omega
theorem wM_onto : ∀ (n : Nat) (m : Q4), Pos m → m.a + m.b + m.c + m.d ≤ n → ∃ l, wM l = m
  | 0, m, h, hn => by have := h.a; have := h.b; have := h.c; have := h.d; omega
  | n + 1, m, h, hn => by
    rcases pos_cases h with e | ⟨e1, e2⟩ | ⟨e1, e2⟩
    · exact ⟨[], e.symm⟩
    · obtain ⟨h1, h2, h3, h4, h5⟩ := h
      obtain ⟨l, hl⟩ := wM_onto n ⟨m.a - m.c, m.b - m.d, m.c, m.d⟩ ⟨by simp only; omega, by simp only; omega, h3, h4, by simp only; grind⟩ (by simp only; omega)
      refine ⟨true :: l, ?_⟩
      rw [wM, hl]
      apply Q4.same <;> simp [letM]
    · obtain ⟨h1, h2, h3, h4, h5⟩ := h
      obtain ⟨l, hl⟩ := wM_onto n ⟨m.a, m.b, m.c - m.a, m.d - m.b⟩ ⟨h1, h2, by simp only; omega, by simp only; omega, by simp only; grind⟩ (by simp only; omega)
      refine ⟨false :: l, ?_⟩
      rw [wM, hl]
      apply Q4.same <;> simp [letM] <;> omega
theorem pos_word {m : Q4} (h : Pos m) : ∃ l, wM l = m := wM_onto (m.a + m.b + m.c + m.d).toNat m h (by omega)
/-- What the first letter tells. -/
theorem wM_T (l : List Bool) : (wM (true :: l)).c < (wM (true :: l)).a ∧ (wM (true :: l)).d ≤ (wM (true :: l)).b := by
  obtain ⟨h1, h2, h3, h4, h5⟩ := wM_pos l
  simp only [wM, letM, if_true]; omega
theorem wM_L (l : List Bool) : (wM (false :: l)).a ≤ (wM (false :: l)).c ∧ (wM (false :: l)).b < (wM (false :: l)).d := by
  obtain ⟨h1, h2, h3, h4, h5⟩ := wM_pos l
  simp only [wM, letM, Bool.false_eq_true, if_false]; omega
theorem letM_inj {b : Bool} {m n : Q4} (h : letM b m = letM b n) : m = n := by
  cases b <;> simp only [letM, if_true, Bool.false_eq_true, if_false, Q4.mk.injEq] at h <;> exact Q4.same (by omega) (by omega) (by omega) (by omega)
theorem wM_inj : ∀ {l k : List Bool}, wM l = wM k → l = k
  | [], [], _ => rfl
  | [], true :: k, h => by have := wM_T k; rw [← h] at this; simp [wM] at this
  | [], false :: k, h => by have := wM_L k; rw [← h] at this; simp [wM] at this
  | true :: l, [], h => by have := wM_T l; rw [h] at this; simp [wM] at this
  | false :: l, [], h => by have := wM_L l; rw [h] at this; simp [wM] at this
  | true :: l, false :: k, h => by have h1 := wM_T l; have h2 := wM_L k; rw [h] at h1; omega
  | false :: l, true :: k, h => by have h1 := wM_L l; have h2 := wM_T k; rw [h] at h1; omega
  | true :: l, true :: k, h => by rw [wM_inj (letM_inj (b := true) h)]
  | false :: l, false :: k, h => by rw [wM_inj (letM_inj (b := false) h)]
/-! ### Products -/
def mulQ (m n : Q4) : Q4 := ⟨m.a * n.a + m.b * n.c, m.a * n.b + m.b * n.d, m.c * n.a + m.d * n.c, m.c * n.b + m.d * n.d⟩
theorem wM_append : ∀ l k, wM (l ++ k) = mulQ (wM l) (wM k)
  | [], k => by apply Q4.same <;> simp [wM, mulQ]
  | b :: l, k => by
    rw [List.cons_append, wM, wM_append l k, wM]
    cases b <;> apply Q4.same <;> simp only [letM, mulQ, if_true, Bool.false_eq_true, if_false] <;> grind
theorem trace_turn (l k : List Bool) : (wM (l ++ k)).a + (wM (l ++ k)).d = (wM (k ++ l)).a + (wM (k ++ l)).d := by
  rw [wM_append, wM_append]; simp only [mulQ]; grind
/-- How long a word is. -/
theorem wM_len : ∀ l, ((wM l).b = 0 ∧ (wM l).c = l.length ∧ (wM l).a = 1 ∧ (wM l).d = 1) ∨ ((wM l).c = 0 ∧ (wM l).b = l.length ∧ (wM l).a = 1 ∧ (wM l).d = 1) ∨ (1 ≤ (wM l).b ∧ 1 ≤ (wM l).c ∧ (l.length : Int) + 1 ≤ (wM l).a + (wM l).d)
  | [] => .inl (by simp [wM])
  | b :: l => by
    have h := wM_pos l
    obtain ⟨h1, h2, h3, h4, h5⟩ := h
    rcases wM_len l with ⟨e1, e2, e3, e4⟩ | ⟨e1, e2, e3, e4⟩ | ⟨e1, e2, e3⟩ <;> cases b <;> simp only [wM, letM, if_true, Bool.false_eq_true, if_false, List.length_cons] <;> omega
theorem wM_long {l : List Bool} (h : 3 ≤ (wM l).a + (wM l).d) : 1 ≤ (wM l).b ∧ 1 ≤ (wM l).c ∧ (l.length : Int) + 1 ≤ (wM l).a + (wM l).d := by
  have := wM_len l; omega
/-! ### Runs -/
theorem wM_run : ∀ (n : Nat) (l : List Bool), wM (List.replicate n true ++ l) = ⟨(wM l).a + n * (wM l).c, (wM l).b + n * (wM l).d, (wM l).c, (wM l).d⟩
  | 0, l => by apply Q4.same <;> simp
  | n + 1, l => by
    rw [List.replicate_succ, List.cons_append, wM, wM_run n l]
    apply Q4.same <;> simp only [letM, if_true] <;> grind
theorem wM_runL : ∀ (n : Nat) (l : List Bool), wM (List.replicate n false ++ l) = ⟨(wM l).a, (wM l).b, (wM l).c + n * (wM l).a, (wM l).d + n * (wM l).b⟩
  | 0, l => by apply Q4.same <;> simp
  | n + 1, l => by
    rw [List.replicate_succ, List.cons_append, wM, wM_runL n l]
    apply Q4.same <;> simp only [letM, Bool.false_eq_true, if_false] <;> grind
/-- A word parts into a run of a letter and a rest that does not begin with it. -/
theorem run_split (b : Bool) : ∀ l : List Bool, ∃ (n : Nat) (v : List Bool), l = List.replicate n b ++ v ∧ v.head? ≠ some b ∧ (l.head? = some b → 0 < n)
  | [] => ⟨0, [], rfl, by simp, by simp⟩
  | x :: l => by
    by_cases h : x = b
    · subst h
      obtain ⟨n, v, h1, h2, -⟩ := run_split x l
      exact ⟨n + 1, v, by rw [List.replicate_succ, List.cons_append, ← h1], h2, fun _ => by omega⟩
    · exact ⟨0, x :: l, rfl, by simp [h], by simp [h]⟩
theorem quo_low {x y n : Int} (h0 : 0 ≤ x) (h1 : x < y) (hn : 0 ≤ n) : (x + n * y).tdiv y = n := by
  have hn' : 0 ≤ n * y := Int.mul_nonneg hn (by omega)
  rw [Int.tdiv_eq_ediv_of_nonneg (by omega), Int.add_mul_ediv_right _ _ (by omega), Int.ediv_eq_zero_of_lt h0 h1]; omega
theorem quo_high {x y n : Int} (h0 : 0 ≤ x) (h1 : 0 < y) (hn : 0 ≤ n) : n ≤ (x + n * y).tdiv y := by
  have hn' : 0 ≤ n * y := Int.mul_nonneg hn (by omega)
  rw [Int.tdiv_eq_ediv_of_nonneg (by omega), Int.add_mul_ediv_right _ _ (by omega)]
  have := Int.ediv_nonneg h0 (Int.le_of_lt h1); omega
/-- Of a run of T, what the two quotients are. -/
theorem run_T {n : Nat} {v : List Bool} (hv : v.head? ≠ some true) : ((wM v).c = 0 ∧ v = []) ∨ (0 < (wM v).c ∧ n ≤ ((wM v).a + n * (wM v).c).tdiv (wM v).c ∧ ((wM v).b + n * (wM v).d).tdiv (wM v).d = n) := by
  obtain ⟨h1, h2, h3, h4, h5⟩ := wM_pos v
  match v, hv with
  | [], _ => exact .inl ⟨rfl, rfl⟩
  | false :: v, _ =>
    have h := wM_L v
    exact .inr ⟨by omega, quo_high (by omega) (by omega) (by omega), quo_low h2 h.2 (by omega)⟩
  | true :: v, h => simp at h
theorem run_L {n : Nat} {v : List Bool} (hv : v.head? ≠ some false) : ((wM v).b = 0 ∧ v = []) ∨ (0 < (wM v).b ∧ ((wM v).c + n * (wM v).a).tdiv (wM v).a = n ∧ n ≤ ((wM v).d + n * (wM v).b).tdiv (wM v).b) := by
  obtain ⟨h1, h2, h3, h4, h5⟩ := wM_pos v
  match v, hv with
  | [], _ => exact .inl ⟨rfl, rfl⟩
  | true :: v, _ =>
    have h := wM_T v
    exact .inr ⟨by omega, quo_low h3 h.1 (by omega), quo_high (by omega) (by omega) (by omega)⟩
  | false :: v, h => simp at h
end Go.Proofs.Ytencfmipplgnkaa
/- Plain: the runs of a word, taken from its matrix. -/
namespace Go.Proofs.Ytencfmipplgnkaa
def evB (i : Nat) : Bool := i % 2 == 0
/-- The word with these runs, of which the first has the number i. -/
def expR : Nat → List Int → List Bool
  | _, [] => []
  | i, r :: rs => List.replicate r.toNat (evB i) ++ expR (i + 1) rs
theorem expR_snoc (r : Int) : ∀ (rs : List Int) (i : Nat), expR i (rs ++ [r]) = expR i rs ++ List.replicate r.toNat (evB (i + rs.length))
  | [], i => by simp [expR]
  | x :: rs, i => by
    rw [List.cons_append, expR, expR, expR_snoc r rs (i + 1), List.append_assoc]
    simp only [List.length_cons]
    congr 4; omega
/-- Of l the runs D are taken, v is left. -/
structure RunAt (l : List Bool) (D : List Int) (v : List Bool) : Prop where
  hl : l = expR 0 D ++ v
  pos : ∀ r ∈ D, 0 ≤ r
  prev : 0 < D.length → v.head? ≠ some (!evB D.length)
  cnt : D.length + v.length ≤ l.length + 1
theorem RunAt.start (l : List Bool) : RunAt l [] l := ⟨rfl, by simp, by simp, by simp⟩
theorem RunAt.step {l : List Bool} {D : List Int} {v : List Bool} (h : RunAt l D v) (hv : v ≠ []) : ∃ (n : Nat) (v' : List Bool), RunAt l (D ++ [(n : Int)]) v' ∧ v = List.replicate n (evB D.length) ++ v' ∧ v'.head? ≠ some (evB D.length) := by
  obtain ⟨n, v', e, h2, h3⟩ := run_split (evB D.length) v
  obtain ⟨hl, hp, hpr, hc⟩ := h
  refine ⟨n, v', ⟨?_, ?_, ?_, ?_⟩, e, h2⟩
  · rw [expR_snoc, hl]
    conv => lhs; rw [e]
    simp
  · intro r hr
    rcases List.mem_append.1 hr with h | h
    · exact hp r h
    · simp only [List.mem_singleton] at h; omega
  · intro _
    have : (!evB (D ++ [(n : Int)]).length) = evB D.length := by
      simp only [List.length_append, List.length_cons, List.length_nil, evB]
      rcases Nat.mod_two_eq_zero_or_one D.length with h | h
      · rw [show (D.length + (0 + 1)) % 2 = 1 by omega, h]; rfl
      · rw [show (D.length + (0 + 1)) % 2 = 0 by omega, h]; rfl
    rw [this]; exact h2
  · have hvl : v.length = n + v'.length := by rw [e]; simp
    simp only [List.length_append, List.length_cons, List.length_nil]
    rcases Nat.eq_zero_or_pos D.length with h0 | h0
    · have hl2 : l.length = v.length := by
        have : D = [] := List.eq_nil_of_length_eq_zero h0
        rw [hl, this]; simp [expR]
      omega
    · have : 0 < n := by
        apply h3
        cases v with
        | nil => exact absurd rfl hv
        | cons b v =>
          have := hpr h0
          simp only [List.head?_cons, ne_eq, Option.some.injEq] at this ⊢
          cases b <;> cases hh : evB D.length <;> simp [hh] at this ⊢
      omega
structure Low (m : Q4) : Prop where
  a : m.a ≤ 1000
  b : m.b ≤ 1000
  c : m.c ≤ 1000
  d : m.d ≤ 1000
/-- A run of T is taken from m: what is left is m'. -/
structure StepT (m m' : Q4) (n : Int) : Prop where
  e1 : m.a - n * m.c = m'.a
  e2 : m.b - n * m.d = m'.b
  e3 : m.c = m'.c
  e4 : m.d = m'.d
  oft : (m.c = 0 ∧ 0 < m.d ∧ m.b.tdiv m.d = n) ∨ (0 < m.c ∧ m.d = 0 ∧ m.a.tdiv m.c = n) ∨ (0 < m.c ∧ 0 < m.d ∧ min (m.a.tdiv m.c) (m.b.tdiv m.d) = n)
  n0 : 0 ≤ n
  n1 : n ≤ 1000
  c0 : 0 ≤ n * m.c
  c1 : n * m.c ≤ 1000
  d0 : 0 ≤ n * m.d
  d1 : n * m.d ≤ 1000
  low : Low m'
/-- A run of L. -/
structure StepL (m m' : Q4) (n : Int) : Prop where
  e1 : m.c - n * m.a = m'.c
  e2 : m.d - n * m.b = m'.d
  e3 : m.a = m'.a
  e4 : m.b = m'.b
  oft : (m.a = 0 ∧ 0 < m.b ∧ m.d.tdiv m.b = n) ∨ (0 < m.a ∧ m.b = 0 ∧ m.c.tdiv m.a = n) ∨ (0 < m.a ∧ 0 < m.b ∧ min (m.c.tdiv m.a) (m.d.tdiv m.b) = n)
  n0 : 0 ≤ n
  n1 : n ≤ 1000
  c0 : 0 ≤ n * m.a
  c1 : n * m.a ≤ 1000
  d0 : 0 ≤ n * m.b
  d1 : n * m.b ≤ 1000
  low : Low m'
theorem stepT {n : Nat} {v : List Bool} (hv : v.head? ≠ some true) (hl : Low (wM (List.replicate n true ++ v))) : StepT (wM (List.replicate n true ++ v)) (wM v) n := by
  obtain ⟨h1, h2, h3, h4, h5⟩ := wM_pos v
  have hr := run_T (n := n) hv
  obtain ⟨l1, l2, l3, l4⟩ := hl
  rw [wM_run] at l1 l2 l3 l4 ⊢
  simp only at l1 l2 l3 l4
  have c0 : 0 ≤ (n : Int) * (wM v).c := Int.mul_nonneg (by omega) h3
  have d0 : (n : Int) * 1 ≤ (n : Int) * (wM v).d := Int.mul_le_mul_of_nonneg_left h4 (by omega)
  refine ⟨by simp only; omega, by simp only; omega, rfl, rfl, ?_, by omega, by omega, c0, by simp only; omega, by simp only; omega, by simp only; omega, ⟨by omega, by omega, l3, l4⟩⟩
  simp only
  rcases hr with ⟨e, e2⟩ | ⟨e, e2, e3⟩
  · subst e2
    left
    refine ⟨e, by omega, ?_⟩
    simp [wM]
  · right; right
    refine ⟨e, by omega, ?_⟩
    rw [e3]; omega
theorem stepL {n : Nat} {v : List Bool} (hv : v.head? ≠ some false) (hl : Low (wM (List.replicate n false ++ v))) : StepL (wM (List.replicate n false ++ v)) (wM v) n := by
  obtain ⟨h1, h2, h3, h4, h5⟩ := wM_pos v
  have hr := run_L (n := n) hv
  obtain ⟨l1, l2, l3, l4⟩ := hl
  rw [wM_runL] at l1 l2 l3 l4 ⊢
  simp only at l1 l2 l3 l4
  have d0 : 0 ≤ (n : Int) * (wM v).b := Int.mul_nonneg (by omega) h2
  have c0 : (n : Int) * 1 ≤ (n : Int) * (wM v).a := Int.mul_le_mul_of_nonneg_left h1 (by omega)
  refine ⟨by simp only; omega, by simp only; omega, rfl, rfl, ?_, by omega, by omega, by simp only; omega, by simp only; omega, d0, by simp only; omega, ⟨l1, l2, by omega, by omega⟩⟩
  simp only
  rcases hr with ⟨e, e2⟩ | ⟨e, e2, e3⟩
  · subst e2
    right; left
    refine ⟨by omega, e, ?_⟩
    simp [wM]
  · right; right
    refine ⟨by omega, e, ?_⟩
    rw [e2]; omega
theorem RunAt.stepT {l : List Bool} {D : List Int} {v : List Bool} (h : RunAt l D v) (hv : v ≠ []) (hl : Low (wM v)) (he : evB D.length = true) : ∃ (n : Nat) (v' : List Bool), RunAt l (D ++ [(n : Int)]) v' ∧ StepT (wM v) (wM v') n := by
  obtain ⟨n, v', h1, e, h2⟩ := h.step hv
  rw [he] at e h2
  refine ⟨n, v', h1, ?_⟩
  rw [e] at hl ⊢
  exact Go.Proofs.Ytencfmipplgnkaa.stepT h2 hl
theorem RunAt.stepL {l : List Bool} {D : List Int} {v : List Bool} (h : RunAt l D v) (hv : v ≠ []) (hl : Low (wM v)) (he : evB D.length = false) : ∃ (n : Nat) (v' : List Bool), RunAt l (D ++ [(n : Int)]) v' ∧ StepL (wM v) (wM v') n := by
  obtain ⟨n, v', h1, e, h2⟩ := h.step hv
  rw [he] at e h2
  refine ⟨n, v', h1, ?_⟩
  rw [e] at hl ⊢
  exact Go.Proofs.Ytencfmipplgnkaa.stepL h2 hl
/-- Only the empty word has the unit matrix. -/
theorem wM_unit {v : List Bool} (h : v ≠ []) : ((wM v).a == 1 && ((wM v).b == 0 && ((wM v).c == 0 && (wM v).d == 1))) = false := by
  cases hh : ((wM v).a == 1 && ((wM v).b == 0 && ((wM v).c == 0 && (wM v).d == 1)))
  · rfl
  · simp only [Bool.and_eq_true, beq_iff_eq] at hh
    exact absurd (wM_inj (k := []) (Q4.same hh.1 hh.2.1 hh.2.2.1 hh.2.2.2)) h
theorem expR_len_le {l : List Bool} {D : List Int} {v : List Bool} (h : RunAt l D v) : D.length ≤ l.length + 1 := by have := h.cnt; omega
end Go.Proofs.Ytencfmipplgnkaa
/- Plain: turned words, and the least of them. -/
namespace Go.Proofs.Ytencfmipplgnkaa
def turn {α : Type} (k : Nat) (s : List α) : List α := s.drop k ++ s.take k
theorem turn_at {α : Type} (a b : List α) : turn a.length (a ++ b) = b ++ a := by simp [turn]
theorem turn_zero {α : Type} (s : List α) : turn 0 s = s := by simp [turn]
theorem turn_len {α : Type} {k : Nat} {s : List α} : (turn k s).length = s.length := by simp [turn]; omega
theorem turn_map {α β : Type} (f : α → β) (k : Nat) (s : List α) : turn k (s.map f) = (turn k s).map f := by simp [turn, List.map_drop, List.map_take]
theorem turn_part {α : Type} {k : Nat} {s : List α} (h : k ≤ s.length) : ∃ a b, s = a ++ b ∧ a.length = k ∧ turn k s = b ++ a := ⟨s.take k, s.drop k, (List.take_append_drop k s).symm, by simp; omega, rfl⟩
theorem turn_turn {α : Type} {j k : Nat} {s : List α} (hj : j ≤ s.length) (hk : k ≤ s.length) : ∃ i, i ≤ s.length ∧ turn j (turn k s) = turn i s := by
  obtain ⟨a, b, rfl, ha, hb⟩ := turn_part hk
  rw [hb]
  simp only [List.length_append] at *
  rcases Nat.lt_or_ge b.length j with h | h
  · obtain ⟨c, d, rfl, hc, hd⟩ := turn_part (k := j - b.length) (s := a) (by omega)
    refine ⟨c.length, by simp; omega, ?_⟩
    rw [show b ++ (c ++ d) = (b ++ c) ++ d by simp, show j = (b ++ c).length by simp; omega, turn_at, show c ++ d ++ b = c ++ (d ++ b) by simp, turn_at]; simp
  · obtain ⟨c, d, rfl, hc, hd⟩ := turn_part h
    refine ⟨(a ++ c).length, by simp, ?_⟩
    rw [← hc, List.append_assoc, turn_at, show a ++ (c ++ d) = (a ++ c) ++ d by simp, turn_at]; simp
/-- The least of the word and its first n turned words. -/
def bestN (s : List UInt8) : Nat → List UInt8
  | 0 => s
  | i + 1 => if turn i s < bestN s i then turn i s else bestN s i
def least (s : List UInt8) : List UInt8 := bestN s s.length
theorem bestN_turn (s : List UInt8) : ∀ n, n ≤ s.length → ∃ k, k ≤ s.length ∧ bestN s n = turn k s
  | 0, _ => ⟨0, Nat.zero_le _, (turn_zero s).symm⟩
  | n + 1, h => by
    unfold bestN
    split
    · exact ⟨n, by omega, rfl⟩
    · exact bestN_turn s n (by omega)
theorem bestN_le (s : List UInt8) : ∀ n k, k < n → bestN s n ≤ turn k s
  | n + 1, k, h => by
    unfold bestN
    rcases Nat.lt_succ_iff_lt_or_eq.1 h with h1 | h1
    · have h2 := bestN_le s n k h1
      split
      · rename_i h3
        exact List.le_trans (List.le_of_lt h3) h2
      · exact h2
    · subst h1
      split
      · exact List.le_refl _
      · rename_i h3
        exact List.not_lt.1 h3
theorem least_turn (s : List UInt8) : ∃ k, k ≤ s.length ∧ least s = turn k s := bestN_turn s _ (Nat.le_refl _)
theorem turn_full {α : Type} (s : List α) : turn s.length s = s := by simp [turn]
theorem least_le (s : List UInt8) {k : Nat} (h : k ≤ s.length) : least s ≤ turn k s := by
  rcases Nat.lt_or_eq_of_le h with h1 | h1
  · exact bestN_le s _ k h1
  · rw [h1, turn_full]
    cases s with
    | nil => simp [least, bestN]
    | cons a s => have := bestN_le (a :: s) (a :: s).length 0 (by simp); rwa [turn_zero] at this
theorem least_len (s : List UInt8) : (least s).length = s.length := by
  obtain ⟨k, -, e⟩ := least_turn s
  rw [e, turn_len]
theorem least_least (s : List UInt8) : least (least s) = least s := by
  obtain ⟨k, hk, e⟩ := least_turn s
  obtain ⟨j, hj, e2⟩ := least_turn (least s)
  rw [least_len] at hj
  obtain ⟨i, hi, e3⟩ := turn_turn hj hk
  apply List.le_antisymm
  · have := least_le (least s) (k := 0) (Nat.zero_le _)
    rwa [turn_zero] at this
  · rw [e2]
    conv => rhs; rw [e]
    rw [e3]; exact least_le s hi
/-- The bytes of a word: T is 84, L is 76. -/
def ltr (b : Bool) : UInt8 := if b then 84 else 76
def bs (l : List Bool) : List UInt8 := l.map ltr
theorem bs_len (l : List Bool) : (bs l).length = l.length := by simp [bs]
theorem bs_inj {l k : List Bool} (h : bs l = bs k) : l = k := by
  induction l generalizing k with
  | nil => cases k <;> simp [bs] at h ⊢
  | cons a l ih =>
    cases k with
    | nil => simp [bs] at h
    | cons b k =>
      simp only [bs, List.map_cons, List.cons.injEq] at h
      rw [ih h.2]
      cases a <;> cases b <;> first | rfl | (exfalso; exact absurd h.1 (by decide))
/-- The least of all words that come from a word by turning. -/
def bestW (l : List Bool) : Nat → List Bool
  | 0 => l
  | i + 1 => if turn i (bs l) < bs (bestW l i) then turn i l else bestW l i
def leastW (l : List Bool) : List Bool := bestW l l.length
theorem bs_best (l : List Bool) : ∀ n, bs (bestW l n) = bestN (bs l) n
  | 0 => rfl
  | n + 1 => by
    unfold bestW bestN
    rw [bs_best l n]
    split
    · exact (turn_map _ _ _).symm
    · exact bs_best l n
theorem bs_least (l : List Bool) : bs (leastW l) = least (bs l) := by unfold leastW least; rw [bs_best, bs_len]
theorem leastW_turn (l : List Bool) : ∃ k, k ≤ l.length ∧ leastW l = turn k l := by
  obtain ⟨k, hk, e⟩ := least_turn (bs l)
  refine ⟨k, by rwa [bs_len] at hk, bs_inj ?_⟩
  rw [bs_least, e]; exact turn_map _ _ _
theorem leastW_twice (l : List Bool) : leastW (leastW l) = leastW l := bs_inj (by rw [bs_least, bs_least, least_least])
theorem leastW_trace (l : List Bool) : (wM (leastW l)).a + (wM (leastW l)).d = (wM l).a + (wM l).d := by
  obtain ⟨k, hk, e⟩ := leastW_turn l
  obtain ⟨a, b, rfl, ha, hb⟩ := turn_part hk
  rw [e, hb]; exact trace_turn b a
theorem leastW_len (l : List Bool) : (leastW l).length = l.length := by
  obtain ⟨k, -, e⟩ := leastW_turn l
  rw [e, turn_len]
end Go.Proofs.Ytencfmipplgnkaa
/- Plain: the positive matrices of a trace in their order, and the classes of a trace. -/
namespace Go.Proofs.Ytencfmipplgnkaa
theorem stepsL_in {α : Type} {n : Int} {f : Int → List α} {x : α} : ∀ {m : Nat} (i : Nat), i < m → x ∈ f (i - n) → x ∈ stepsL n f m
  | m + 1, i, h, hx => by
    rw [stepsL, List.mem_append]
    rcases Nat.lt_succ_iff_lt_or_eq.1 h with h1 | h1
    · exact .inl (stepsL_in i h1 hx)
    · subst h1; exact .inr hx
theorem stepsL_pair {α : Type} {R : α → α → Prop} {n : Int} {f : Int → List α} (h1 : ∀ x, (f x).Pairwise R) (h2 : ∀ x y, x < y → ∀ u ∈ f x, ∀ v ∈ f y, R u v) : ∀ m, (stepsL n f m).Pairwise R
  | 0 => List.Pairwise.nil
  | m + 1 => by
    rw [stepsL, List.pairwise_append]
    refine ⟨stepsL_pair h1 h2 m, h1 _, fun u hu v hv => ?_⟩
    obtain ⟨i, hi, hu⟩ := stepsL_mem hu
    exact h2 _ _ (by omega) u hu v hv
/-- The matrices with a and b, and the trace t. -/
def ent (t a b : Int) : List Q4 := if (a * (t - a) - 1).tmod b = 0 then [⟨a, b, (a * (t - a) - 1).tdiv b, t - a⟩] else []
def rowB (t a : Int) : Nat → List Q4 := stepsL (-1) (ent t a)
def rowA (t : Int) : Nat → List Q4 := stepsL (-1) fun a => rowB t a (a * (t - a) - 1).toNat
def enumL (t : Int) : List Q4 := rowA t (t - 1).toNat
theorem ent_mem {t a b : Int} {m : Q4} (h : m ∈ ent t a b) : m = ⟨a, b, (a * (t - a) - 1).tdiv b, t - a⟩ ∧ (a * (t - a) - 1).tmod b = 0 := by
  unfold ent at h
  split at h
  · rename_i h1; simp only [List.mem_singleton] at h; exact ⟨h, h1⟩
  · simp at h
structure InT (t : Int) (m : Q4) : Prop where
  pos : Pos m
  tr : m.a + m.d = t
  b : 1 ≤ m.b
  c : 1 ≤ m.c
theorem area_low {t a : Int} (h1 : 1 ≤ a) (h2 : a < t) : t - 2 ≤ a * (t - a) - 1 := by
  have e : 0 ≤ (a - 1) * (t - a - 1) := Int.mul_nonneg (by omega) (by omega)
  have e2 : (a - 1) * (t - a - 1) = a * (t - a) - t + 1 := by grind
  omega
theorem area_high {t a : Int} (h1 : 1 ≤ a) (h2 : a < t) (ht : t ≤ 60) : a * (t - a) - 1 ≤ 3600 := by
  have e : a * (t - a) ≤ 60 * 60 := Int.mul_le_mul (by omega) (by omega) (by omega) (by omega)
  omega
theorem ent_in {t a b : Int} (ht : 3 ≤ t) (h1 : 1 ≤ a) (h2 : a < t) (h3 : 1 ≤ b) (hz : (a * (t - a) - 1).tmod b = 0) : InT t ⟨a, b, (a * (t - a) - 1).tdiv b, t - a⟩ := by
  have hp := area_low h1 h2
  have e := Int.mul_tdiv_cancel' (Int.dvd_of_tmod_eq_zero hz)
  have hc : 1 ≤ (a * (t - a) - 1).tdiv b := by
    apply Int.not_lt.1
    intro hc
    have : b * (a * (t - a) - 1).tdiv b ≤ 0 := Int.mul_nonpos_of_nonneg_of_nonpos (by omega) (by omega)
    omega
  exact ⟨⟨h1, by simp only; omega, by simp only; omega, by simp only; omega, by simp only; rw [e]; omega⟩, by simp only; omega, h3, hc⟩
theorem mem_enum {t : Int} (ht : 3 ≤ t) {m : Q4} : m ∈ enumL t ↔ InT t m := by
  constructor
  · intro h
    obtain ⟨i, hi, h⟩ := stepsL_mem h
    obtain ⟨j, hj, h⟩ := stepsL_mem h
    obtain ⟨e, h⟩ := ent_mem h
    rw [e]
    exact ent_in ht (by omega) (by omega) (by omega) h
  · rintro ⟨⟨h1, h2, h3, h4, h5⟩, e, hb, hc⟩
    obtain ⟨a, b, c, d⟩ := m
    simp only at *
    have ed : d = t - a := by omega
    subst ed
    have ep : a * (t - a) - 1 = b * c := by omega
    have hbp : b * 1 ≤ b * c := Int.mul_le_mul_of_nonneg_left hc (by omega)
    refine stepsL_in (a - 1).toNat (by omega) ?_
    have ea : ((a - 1).toNat : Int) - -1 = a := by omega
    rw [ea]
    refine stepsL_in (b - 1).toNat (by omega) ?_
    have eb : ((b - 1).toNat : Int) - -1 = b := by omega
    rw [eb]
    unfold ent
    rw [if_pos (by rw [ep, Int.mul_tmod_right]), ep, Int.mul_tdiv_cancel_left _ (by omega)]
    simp
/-- Go's comparison of two matrices. -/
def cmpI (x y r : Int) : Int := if x < y then -1 else if y < x then 1 else r
def cmpQ (m n : Q4) : Int := cmpI m.a n.a (cmpI m.b n.b (cmpI m.c n.c (cmpI m.d n.d 0)))
theorem cmpQ_anti {m n : Q4} (h1 : cmpQ m n ≤ 0) (h2 : cmpQ n m ≤ 0) : m = n := by
  unfold cmpQ cmpI at h1 h2
  apply Q4.same <;> (repeat' split at h1) <;> (repeat' split at h2) <;> omega
def ltQ (m n : Q4) : Prop := m.a < n.a ∨ (m.a = n.a ∧ m.b < n.b)
theorem ltQ_cmp {m n : Q4} (h : ltQ m n) : cmpQ m n ≤ 0 := by
  unfold ltQ at h
  unfold cmpQ cmpI
  repeat' split
  all_goals omega
theorem ltQ_ne {m : Q4} : ¬ ltQ m m := by unfold ltQ; omega
theorem enum_sorted (t : Int) : (enumL t).Pairwise ltQ := by
  refine stepsL_pair (fun a => stepsL_pair (fun b => ?_) (fun x y h u hu v hv => ?_) _) (fun x y h u hu v hv => ?_) _
  · unfold ent; split <;> simp
  · have hu := (ent_mem hu).1; have hv := (ent_mem hv).1
    subst hu hv; exact .inr ⟨rfl, h⟩
  · obtain ⟨i, -, hu⟩ := stepsL_mem hu
    obtain ⟨j, -, hv⟩ := stepsL_mem hv
    have hu := (ent_mem hu).1; have hv := (ent_mem hv).1
    subst hu hv; exact .inl h
theorem enum_nodup (t : Int) : (enumL t).Nodup := by
  refine (enum_sorted t).imp ?_
  intro a b h e
  subst e; exact ltQ_ne h
theorem rowB_len (t a : Int) {n : Nat} : (rowB t a n).length ≤ n := by
  have := stepsL_len (-1) (ent t a) 1 (fun x => by unfold ent; split <;> simp) n
  unfold rowB; omega
open Classical in
/-- The word of a positive matrix. -/
noncomputable def word (m : Q4) : List Bool := if h : ∃ l, wM l = m then h.choose else []
theorem wM_word {m : Q4} (h : Pos m) : wM (word m) = m := by
  have hw := pos_word h
  unfold word
  rw [dif_pos hw]; exact hw.choose_spec
theorem word_wM (l : List Bool) : word (wM l) = l := wM_inj (wM_word (wM_pos l))
theorem word_len {t : Int} (ht : 3 ≤ t) {m : Q4} (h : InT t m) : ((word m).length : Int) + 1 ≤ t := by
  have e := wM_word h.pos
  have e2 := h.tr
  have := (wM_long (l := word m) (by rw [e]; omega)).2.2
  rw [e] at this; omega
/-- Whether a matrix is the first one of its class. -/
noncomputable def ownB (m : Q4) : Bool := least (bs (word m)) == bs (word m)
noncomputable def firstL (l : List Q4) : List Q4 := l.filter ownB
theorem ownB_iff {m : Q4} : ownB m = true ↔ leastW (word m) = word m := by
  unfold ownB
  rw [beq_iff_eq, ← bs_least]
  exact ⟨bs_inj, fun h => by rw [h]⟩
theorem least_in {t : Int} (ht : 3 ≤ t) {m : Q4} (h : InT t m) : InT t (wM (leastW (word m))) := by
  have e := leastW_trace (word m)
  rw [wM_word h.pos, h.tr] at e
  have := wM_long (l := leastW (word m)) (by omega)
  exact ⟨wM_pos _, e, this.1, this.2.1⟩
/-- The classes: however the words were told once each and the matrices sorted. -/
theorem classes_eq {t : Int} (ht : 3 ≤ t) {ls : List (List Bool)} (h1 : ls.Nodup) (h2 : ∀ l, l ∈ ls ↔ ∃ m, m ∈ enumL t ∧ leastW (word m) = l) {ys : List Q4} (hp : ys.Perm (ls.map wM)) (hs : ys.Pairwise fun m n => cmpQ m n ≤ 0) : ys = firstL (enumL t) := by
  have hn : (ls.map wM).Nodup := by
    rw [List.Nodup, List.pairwise_map]
    exact h1.imp fun h e => h (wM_inj e)
  refine List.Perm.eq_of_pairwise (le := fun m n => cmpQ m n ≤ 0) (fun m n _ _ => cmpQ_anti) hs (((enum_sorted t).imp ltQ_cmp).filter _) (hp.trans ?_)
  refine (List.perm_ext_iff_of_nodup hn ((enum_nodup t).filter _)).2 fun m => ?_
  rw [List.mem_map, List.mem_filter, ownB_iff, mem_enum ht]
  constructor
  · rintro ⟨l, hl, rfl⟩
    obtain ⟨m, hm, rfl⟩ := (h2 l).1 hl
    rw [word_wM]
    exact ⟨least_in ht ((mem_enum ht).1 hm), leastW_twice _⟩
  · rintro ⟨h3, h4⟩
    exact ⟨word m, (h2 _).2 ⟨m, (mem_enum ht).2 h3, h4⟩, wM_word h3.pos⟩
end Go.Proofs.Ytencfmipplgnkaa
/- Plain: words as strings. -/
namespace Go.Proofs.Ytencfmipplgnkaa
def wS (l : List Bool) : ByteArray := ⟨(bs l).toArray⟩
theorem wS_size (l : List Bool) : (wS l).size = l.length := by simp [wS, ByteArray.size, bs]
theorem wS_data (l : List Bool) : (wS l).data.toList = bs l := by simp [wS]
theorem wS_nil : wS [] = ⟨#[]⟩ := rfl
theorem wS_add (l k : List Bool) : wS l ++ wS k = wS (l ++ k) := by
  apply ByteArray.ext
  simp [wS, bs, ByteArray.data_append]
theorem wS_rep (b : Bool) (n : Nat) : (⟨(Go.Lib.repeatL [ltr b] n).toArray⟩ : ByteArray) = wS (List.replicate n b) := by
  have : Go.Lib.repeatL [ltr b] n = bs (List.replicate n b) := by
    induction n with
    | zero => rfl
    | succ n ih => rw [Go.Lib.repeatL, ih, List.replicate_succ]; rfl
  rw [this]; rfl
/-- The words of the runs so far. -/
def soFar (D : List Int) (k : Nat) : List Bool := expR 0 (D.take k)
theorem soFar_zero (D : List Int) : soFar D 0 = [] := rfl
theorem soFar_succ {D : List Int} {k : Nat} {n : Int} (h : D[k]? = some n) : soFar D (k + 1) = soFar D k ++ List.replicate n.toNat (evB k) := by
  have hk : k < D.length := (List.getElem?_eq_some_iff.1 h).1
  unfold soFar
  rw [List.take_add_one, h]
  simp only [Option.toList_some]
  rw [expR_snoc, List.length_take, Nat.min_eq_left (by omega), Nat.zero_add]
theorem soFar_all {l : List Bool} {D : List Int} (h : RunAt l D []) : soFar D D.length = l := by
  have := h.hl
  simp only [List.append_nil] at this
  rw [soFar, List.take_length, this]
theorem expR_append : ∀ (a b : List Int) (i : Nat), ∃ z, expR i (a ++ b) = expR i a ++ z
  | [], b, i => ⟨expR i b, rfl⟩
  | x :: a, b, i => by
    obtain ⟨z, hz⟩ := expR_append a b (i + 1)
    exact ⟨z, by rw [List.cons_append, expR, hz, expR, List.append_assoc]⟩
theorem soFar_len {l : List Bool} {D : List Int} (h : RunAt l D []) (k : Nat) : (soFar D k).length ≤ l.length := by
  rw [← soFar_all h]
  obtain ⟨z, hz⟩ := expR_append (D.take k) (D.drop k) 0
  rw [List.take_append_drop] at hz
  unfold soFar
  rw [List.take_length, hz]; simp
/-- The next run. -/
theorem soFar_next {l : List Bool} {D : List Int} (h : RunAt l D []) {k : Nat} (hk : k < D.length) : ∃ n : Nat, D[k]? = some (n : Int) ∧ soFar D (k + 1) = soFar D k ++ List.replicate n (evB k) ∧ (soFar D k).length + n ≤ l.length := by
  have hd : D[k]? = some D[k] := List.getElem?_eq_getElem hk
  have hp := h.pos _ (List.getElem_mem hk)
  obtain ⟨n, hn⟩ : ∃ n : Nat, D[k] = (n : Int) := ⟨D[k].toNat, by omega⟩
  rw [hn] at hd
  have e := soFar_succ hd
  refine ⟨n, hd, e, ?_⟩
  have := soFar_len h (k + 1)
  rw [e] at this
  simpa using this
end Go.Proofs.Ytencfmipplgnkaa
/- Plain: the least turned word, as strings. -/
namespace Go.Proofs.Ytencfmipplgnkaa
theorem wS_turn {l : List Bool} {k n : Nat} (hn : n = l.length) : (wS l).extract k n ++ (wS l).extract 0 k = wS (turn k l) := by
  subst hn
  apply ByteArray.ext
  apply Array.ext'
  simp only [wS, bs, ByteArray.data_append, ByteArray.data_extract, Array.toList_append, Array.toList_extract, turn, List.map_append, List.map_drop, List.map_take, List.extract]
  simp
  exact List.take_of_length_le (by simp)
theorem bytesLess_wS (a b : List Bool) : Go.Op.bytesLess (wS a).toList (wS b).toList = decide (bs a < bs b) := by
  rw [Proofs.bytesLess_eq, Lib.toList_data, Lib.toList_data, wS_data, wS_data]
theorem bestW_succ (l : List Bool) (k : Nat) : bestW l (k + 1) = if bs (turn k l) < bs (bestW l k) then turn k l else bestW l k := by
  rw [bestW]
  have : turn k (bs l) = bs (turn k l) := turn_map _ _ _
  rw [this]
theorem min_turn (l : List Bool) (k : Nat) : Lib.minS (wS (bestW l k)) (wS (turn k l)) = wS (bestW l (k + 1)) := by
  rw [bestW_succ, Lib.minS, wS_data, wS_data]
  by_cases h : bs (turn k l) < bs (bestW l k)
  · have h2 : ¬ (bs (bestW l k) < bs (turn k l) ∨ bs (bestW l k) = bs (turn k l)) := by
      rintro (h2 | h2)
      · exact List.lt_asymm h h2
      · rw [h2] at h; exact List.lt_irrefl _ h
    rw [if_neg h2, if_pos h]
  · rw [if_neg h]
    split
    · rfl
    · rename_i h2
      have h3 : bs (bestW l k) ≤ bs (turn k l) := List.not_lt.1 h
      exfalso
      by_cases h4 : bs (bestW l k) < bs (turn k l)
      · exact h2 (.inl h4)
      · exact h2 (.inr (List.le_antisymm h3 (List.not_lt.1 h4)))
theorem bestW_one (l : List Bool) : bestW l 1 = l := by
  rw [bestW_succ]
  split
  · exact turn_zero l
  · rfl
theorem bestW_len (l : List Bool) : ∀ k, (bestW l k).length = l.length
  | 0 => rfl
  | k + 1 => by
    rw [bestW_succ]
    split
    · exact turn_len
    · exact bestW_len l k
end Go.Proofs.Ytencfmipplgnkaa
/- Plain: words sorted as strings, each once. -/
namespace Go.Proofs.Ytencfmipplgnkaa
theorem lt_of_leS {a b c : List UInt8} (h1 : a ≤ b) (h2 : b < c) : a < c := by
  by_cases h : a < c
  · exact h
  · have h3 : c ≤ a := List.not_lt.1 h
    exact absurd h2 (List.not_lt.2 (List.le_trans h3 h1))
theorem getS_eq {zs : List (List UInt8)} {j : Nat} (h : j < zs.length) : zs.toArray[j]! = zs[j] := by simp [h]
theorem sortedS_get {zs : List (List UInt8)} (hs : zs.Pairwise (· ≤ ·)) {i j : Nat} (hij : i ≤ j) (hj : j < zs.length) : zs[i] ≤ zs[j] := by
  by_cases e : i = j
  · subst e; exact List.le_refl _
  · exact List.pairwise_iff_getElem.1 hs i j (by omega) hj (by omega)
/-- Of a sorted list each number once. -/
theorem compactS_sorted {zs : List (List UInt8)} (hs : zs.Pairwise (· ≤ ·)) : (Lib.compact zs).Pairwise (· < ·) ∧ ∀ x, x ∈ Lib.compact zs ↔ x ∈ zs := by
  unfold Lib.compact Lib.compactUpTo
  constructor
  · rw [List.pairwise_map]
    refine List.Pairwise.imp_of_mem (R := fun a b => a < b) ?_ (List.Pairwise.filter _ List.pairwise_lt_range)
    intro a b ha hb hab
    simp only [List.mem_filter, List.mem_range] at ha hb
    obtain ⟨ha1, ha2⟩ := ha
    obtain ⟨hb1, hb2⟩ := hb
    rw [getS_eq ha1, getS_eq hb1]
    have h1 := sortedS_get hs (show a ≤ b - 1 by omega) (show b - 1 < zs.length by omega)
    have h2 := sortedS_get hs (show b - 1 ≤ b by omega) hb1
    have h3 : zs[b - 1] ≠ zs[b] := by
      intro e
      unfold Lib.keeps at hb2
      rw [decide_eq_true_eq, getS_eq hb1, getS_eq (show b - 1 < zs.length by omega), e] at hb2
      rcases hb2 with h | h
      · omega
      · exact h rfl
    have h4 : zs[b - 1] < zs[b] := by
      by_cases h5 : zs[b - 1] < zs[b]
      · exact h5
      · exact absurd (List.le_antisymm h2 (List.not_lt.1 h5)) h3
    exact lt_of_leS h1 h4
  · intro x
    simp only [List.mem_map, List.mem_filter, List.mem_range]
    constructor
    · rintro ⟨j, ⟨h1, _⟩, rfl⟩
      rw [getS_eq h1]; exact List.getElem_mem h1
    · intro hx
      obtain ⟨j, hj, rfl⟩ := List.getElem_of_mem hx
      have key : ∀ j (hj : j < zs.length), ∃ i, (i < zs.length ∧ Lib.keeps zs.toArray i = true) ∧ zs.toArray[i]! = zs[j] := by
        intro j
        induction j with
        | zero => exact fun hj => ⟨0, ⟨hj, by unfold Lib.keeps; simp⟩, getS_eq hj⟩
        | succ j ih =>
          intro hj
          by_cases e : zs[j + 1] = zs[j]
          · obtain ⟨i, h1, h2⟩ := ih (by omega)
            exact ⟨i, h1, by rw [h2, e]⟩
          · refine ⟨j + 1, ⟨hj, ?_⟩, getS_eq hj⟩
            unfold Lib.keeps
            rw [decide_eq_true_eq, getS_eq hj, Nat.add_sub_cancel, getS_eq (show j < zs.length by omega)]
            exact .inr e
      exact key j hj
/-- The words of a list, sorted as strings, each once. -/
theorem words_sorted (l : List (List Bool)) : ∃ ls : List (List Bool), Lib.compact ((l.map bs).mergeSort fun x y => decide (x ≤ y)) = ls.map bs ∧ ls.Nodup ∧ ∀ x, x ∈ ls ↔ x ∈ l := by
  have hp : (((l.map bs).mergeSort fun x y => decide (x ≤ y))).Pairwise (· ≤ ·) := by
    have h := List.pairwise_mergeSort (le := fun x y : List UInt8 => decide (x ≤ y)) (fun a b c h1 h2 => by
      rw [decide_eq_true_eq] at *; exact List.le_trans h1 h2) (fun a b => by
      simp only [Bool.or_eq_true, decide_eq_true_eq]; exact List.le_total a b) (l.map bs)
    exact h.imp fun h => of_decide_eq_true h
  obtain ⟨h1, h2⟩ := compactS_sorted hp
  generalize Lib.compact ((l.map bs).mergeSort fun x y => decide (x ≤ y)) = C at *
  have hm : ∀ x, x ∈ C ↔ x ∈ l.map bs := fun x => (h2 x).trans (List.mergeSort_perm _ _).mem_iff
  have hall : ∀ x ∈ C, ∃ y, bs y = x := fun x hx => by
    obtain ⟨y, -, e⟩ := List.mem_map.1 ((hm x).1 hx)
    exact ⟨y, e⟩
  have hex : ∃ ls : List (List Bool), C = ls.map bs := by
    clear h1 h2 hm
    induction C with
    | nil => exact ⟨[], rfl⟩
    | cons x C ih =>
      obtain ⟨y, e⟩ := hall x (by simp)
      obtain ⟨ls, e2⟩ := ih fun z hz => hall z (List.mem_cons_of_mem _ hz)
      exact ⟨y :: ls, by rw [List.map_cons, e, ← e2]⟩
  obtain ⟨ls, rfl⟩ := hex
  refine ⟨ls, rfl, ?_, fun x => ?_⟩
  · rw [List.pairwise_map] at h1
    refine h1.imp ?_
    intro a b h e
    subst e; exact List.lt_irrefl _ h
  · constructor
    · intro hx
      obtain ⟨y, hy, e⟩ := List.mem_map.1 ((hm (bs x)).1 (List.mem_map.2 ⟨x, hx, rfl⟩))
      rw [← bs_inj e]; exact hy
    · intro hx
      obtain ⟨y, hy, e⟩ := List.mem_map.1 ((hm (bs x)).2 (List.mem_map.2 ⟨x, hx, rfl⟩))
      rw [← bs_inj e]; exact hy
end Go.Proofs.Ytencfmipplgnkaa
/- Plain: the enumeration of a trace, step by step; the bounds of its matrices. -/
namespace Go.Proofs.Ytencfmipplgnkaa
theorem area_900 {t a : Int} (h0 : 0 ≤ t) (ht : t ≤ 60) : a * (t - a) ≤ 900 := by
  have e : 0 ≤ (t - 2 * a) * (t - 2 * a) := by
    rcases Int.le_total 0 (t - 2 * a) with h | h
    · exact Int.mul_nonneg h h
    · have := Int.mul_nonneg (show 0 ≤ -(t - 2 * a) by omega) (show 0 ≤ -(t - 2 * a) by omega)
      rwa [Int.neg_mul_neg] at this
  have e2 : (t - 2 * a) * (t - 2 * a) = t * t - 4 * (a * (t - a)) := by grind
  have e3 : t * t ≤ 60 * 60 := Int.mul_le_mul ht ht h0 (by omega)
  omega
theorem inT_low {t : Int} (ht : t ≤ 60) {m : Q4} (h : InT t m) : Low m := by
  obtain ⟨⟨h1, h2, h3, h4, h5⟩, e, hb, hc⟩ := h
  have hd : m.d = t - m.a := by omega
  have ha := area_900 (t := t) (a := m.a) (by omega) ht
  rw [hd] at h5
  have m1 : m.b * 1 ≤ m.b * m.c := Int.mul_le_mul_of_nonneg_left hc (by omega)
  have m2 : 1 * m.c ≤ m.b * m.c := Int.mul_le_mul_of_nonneg_right hb (by omega)
  exact ⟨by omega, by omega, by omega, by omega⟩
structure WordOf (t : Int) (m : Q4) (l : List Bool) : Prop where
  mat : wM l = m
  low : Low m
  len : l.length ≤ 60
  pos : 0 < l.length
  own : word m = l
theorem word_of {t : Int} (h3 : 3 ≤ t) (ht : t ≤ 60) {m : Q4} (h : InT t m) : WordOf t m (word m) := by
  have e := wM_word h.pos
  have hl := word_len h3 h
  refine ⟨e, inT_low ht h, by omega, ?_, rfl⟩
  rcases Nat.eq_zero_or_pos (word m).length with h0 | h0
  · have : word m = [] := List.eq_nil_of_length_eq_zero h0
    rw [this] at e
    have h1 := h.tr
    rw [← e] at h1
    simp [wM] at h1
    omega
  · exact h0
theorem least_of {t : Int} (h3 : 3 ≤ t) (ht : t ≤ 60) {m : Q4} (h : InT t m) : Low (wM (leastW (word m))) ∧ (leastW (word m)).length ≤ 60 ∧ 0 < (leastW (word m)).length := by
  have hw := word_of h3 ht h
  exact ⟨inT_low ht (least_in h3 h), by rw [leastW_len]; exact hw.len, by rw [leastW_len]; exact hw.pos⟩
theorem own_bytes {m : Q4} {l : List Bool} (h : word m = l) : ((wS (leastW l)).toList == (wS l).toList) = ownB m := by
  subst h
  rw [Lib.toList_data, Lib.toList_data, wS_data, wS_data, bs_least]; rfl
theorem rowA_succ {t : Int} (i : Nat) : rowA t (i + 1) = rowA t i ++ rowB t (i + 1) ((i + 1) * (t - (i + 1)) - 1).toNat := by
  rw [rowA, stepsL, ← rowA, Int.sub_neg]
theorem rowB_succ {t a : Int} (j : Nat) : rowB t a (j + 1) = rowB t a j ++ ent t a (j + 1) := by
  rw [rowB, stepsL, ← rowB, Int.sub_neg]
theorem ent_eq {t a b p : Int} (hp : a * (t - a) - 1 = p) : ent t a b = if p.tmod b = 0 then [⟨a, b, p.tdiv b, t - a⟩] else [] := by subst hp; rfl
theorem rowA_len {t : Int} (h0 : 0 ≤ t) (ht : t ≤ 60) (n : Nat) : (rowA t n).length ≤ n * 900 := by
  refine stepsL_len (-1) _ 900 (fun x => ?_) n
  have := rowB_len t x (n := (x * (t - x) - 1).toNat)
  have := area_900 (a := x) h0 ht
  omega
/-- The words of a list of matrices. -/
noncomputable def wordsL (l : List Q4) : List (List Bool) := l.map fun m => leastW (word m)
theorem wordsL_snoc (l : List Q4) (m : Q4) : wordsL (l ++ [m]) = wordsL l ++ [leastW (word m)] := by simp [wordsL]
theorem wordsL_len (l : List Q4) : (wordsL l).length = l.length := by simp [wordsL]
theorem firstL_append (l k : List Q4) : firstL (l ++ k) = firstL l ++ firstL k := by simp [firstL]
theorem firstL_len (l : List Q4) : (firstL l).length ≤ l.length := List.length_filter_le _ _
theorem firstL_one {m : Q4} (h : ownB m = true) : firstL [m] = [m] := by simp [firstL, h]
theorem firstL_none {m : Q4} (h : ownB m = false) : firstL [m] = [] := by simp [firstL, h]
/-- The result of both. -/
noncomputable def coRes (t : Int) : List Q4 × Int := if inB t 3 60 = true then (firstL (enumL t), 0) else ([], 2)
/-- What the impl's list comes to. -/
theorem sorted_classes {t : Int} (h3 : 3 ≤ t) : ∃ ls : List (List Bool), Lib.compact (((wordsL (enumL t)).map bs).mergeSort fun x y => decide (x ≤ y)) = ls.map bs ∧ (∀ l ∈ ls, ∃ m, InT t m ∧ leastW (word m) = l) ∧ (ls.length ≤ (enumL t).length ∧ 0 < ls.length) ∧
    ∀ ys : List Q4, ys.Perm (ls.map wM) → (ys.Pairwise fun m n => cmpQ m n ≤ 0) → ys = firstL (enumL t) := by
  obtain ⟨ls, h1, h2, hm⟩ := words_sorted (wordsL (enumL t))
  have hm2 : ∀ l, l ∈ ls ↔ ∃ m, m ∈ enumL t ∧ leastW (word m) = l := fun l => (hm l).trans (by simp [wordsL])
  refine ⟨ls, h1, fun l hl => ?_, ⟨?_, ?_⟩, fun ys hp hs => classes_eq h3 h2 hm2 hp hs⟩
  · obtain ⟨m, h4, h5⟩ := (hm2 l).1 hl
    exact ⟨m, (mem_enum h3).1 h4, h5⟩
  · have := Lib.compact_length_le (((wordsL (enumL t)).map bs).mergeSort fun x y => decide (x ≤ y))
    rw [h1] at this
    simpa [wordsL] using this
  · have hin : InT t ⟨1, 1, t - 2, t - 1⟩ := ⟨⟨by simp only; omega, by simp only; omega, by simp only; omega, by simp only; omega, by simp only; omega⟩, by simp only; omega, by simp only; omega, by simp only; omega⟩
    exact List.length_pos_of_mem ((hm2 _).2 ⟨_, (mem_enum h3).2 hin, rfl⟩)
end Go.Proofs.Ytencfmipplgnkaa
/- Plain facts: whole square roots; reduced forms. -/
namespace Go.Proofs.Ytencfmipplgnkaa
theorem mul_le_self {x y : Int} (h0 : 0 ≤ x) (h : x ≤ y) : x * x ≤ y * y := Int.le_trans (Int.mul_le_mul_of_nonneg_left h h0) (Int.mul_le_mul_of_nonneg_right h (Int.le_trans h0 h))
theorem lt_of_sq {x y : Int} (hy : 0 ≤ y) (h : x * x < y * y) : x < y := by
  refine Int.not_le.1 fun hh => ?_
  have := mul_le_self hy hh
  omega
theorem le_of_sq {x y : Int} (hy : 0 ≤ y) (h : x * x ≤ y * y) : x ≤ y := by
  refine Int.not_lt.1 fun hh => ?_
  have h1 : y + 1 ≤ x := by omega
  have := mul_le_self (show 0 ≤ y + 1 by omega) h1
  have h2 : (y + 1) * (y + 1) = y * y + 2 * y + 1 := by grind
  omega
/-- r is the whole square root of d. -/
structure IsRoot (r d : Int) : Prop where
  nn : 0 ≤ r
  lo : r * r ≤ d
  hi : d < (r + 1) * (r + 1)
theorem root_unique {r s d : Int} (h : IsRoot r d) (h' : IsRoot s d) : r = s := by
  have h1 : r < s + 1 := lt_of_sq (by have := h'.nn; omega) (Int.lt_of_le_of_lt h.lo h'.hi)
  have h2 : s < r + 1 := lt_of_sq (by have := h.nn; omega) (Int.lt_of_le_of_lt h'.lo h.hi)
  omega
def rootUp : Nat → Nat → Nat
  | 0, _ => 0
  | k + 1, n => if (rootUp k n + 1) * (rootUp k n + 1) ≤ n then rootUp k n + 1 else rootUp k n
theorem rootUp_lo : ∀ (k n : Nat), rootUp k n * rootUp k n ≤ n
  | 0, n => by simp [rootUp]
  | k + 1, n => by
    unfold rootUp
    split
    · assumption
    · exact rootUp_lo k n
theorem rootUp_hi : ∀ (k n : Nat), k ≤ rootUp k n ∨ n < (rootUp k n + 1) * (rootUp k n + 1)
  | 0, n => by simp
  | k + 1, n => by
    have ih := rootUp_hi k n
    unfold rootUp
    split
    · rename_i h
      rcases ih with h1 | h1
      · left; omega
      · omega
    · rename_i h; right; omega
def isqrt (d : Int) : Int := (rootUp (d.toNat + 1) d.toNat : Nat)
theorem isqrt_root {d : Int} (h : 0 ≤ d) : IsRoot (isqrt d) d := by
  have h1 := rootUp_lo (d.toNat + 1) d.toNat
  have h2 := rootUp_hi (d.toNat + 1) d.toNat
  unfold isqrt
  generalize rootUp (d.toNat + 1) d.toNat = r at h1 h2
  have e : ((d.toNat : Nat) : Int) = d := by omega
  have h1' : (r : Int) * r ≤ d := by rw [← e]; exact_mod_cast h1
  refine ⟨by omega, h1', ?_⟩
  rcases h2 with h2 | h2
  · have h3 : d + 1 ≤ (r : Int) := by omega
    have h4 : (r : Int) ≤ r * r := by
      have := Int.mul_le_mul_of_nonneg_left (show (1 : Int) ≤ r by omega) (show (0 : Int) ≤ r by omega)
      omega
    omega
  · rw [← e]; exact_mod_cast h2
def sqB (d : Int) : Bool := isqrt d * isqrt d == d
/-- The Bool of 'isReduced'. -/
def disc (a b c : Int) : Int := b * b - 4 * a * c
def redDef (a b c : Int) : Bool := decide (-a ≤ b ∧ b ≤ a ∧ a ≤ c ∧ (0 ≤ b ∨ (-b ≠ a ∧ a ≠ c)))
def redInd (a b c : Int) : Bool := decide (0 < b ∧ b * b < disc a b c ∧ disc a b c < (2 * (a.natAbs : Int) + b) * (2 * (a.natAbs : Int) + b) ∧ (2 * (a.natAbs : Int) < b ∨ (2 * (a.natAbs : Int) - b) * (2 * (a.natAbs : Int) - b) < disc a b c))
def redB (a b c : Int) : Bool := if disc a b c < 0 ∧ 0 < a then redDef a b c else redInd a b c
theorem disc_bd {a b c : Int} (h : Small a b c) : -4000000000000 ≤ disc a b c ∧ disc a b c ≤ 5000000000000 := by
  obtain ⟨a0, a1, b0, b1, c0, c1⟩ := h
  have h1 := mul_bd b0 b1 b0 b1
  have h2 := mul_bd (a := 4 * a) (b := c) (A := 4000000) (B := 1000000) (by omega) (by omega) c0 c1
  have h3 := sq_nn b
  unfold disc
  omega
end Go.Proofs.Ytencfmipplgnkaa
/- Plain facts: the whole square root by halves; reduced forms. -/
namespace Go.Proofs.Ytencfmipplgnkaa
structure SqInv (n x y : Int) : Prop where
  lo : x * x ≤ n
  st : (y = 0 ∧ n < (x + 1) * (x + 1)) ∨ ∃ j : Nat, y = ((2 ^ j : Nat) : Int) ∧ n < (x + 2 * y) * (x + 2 * y)
theorem sqInv_start {n : Int} (h0 : 0 ≤ n) (h : n ≤ 5000000000000) : SqInv n 0 2147483648 :=
  ⟨by simpa using h0, .inr ⟨31, by decide, by omega⟩⟩
theorem sqInv_x {n x y : Int} (h : SqInv n x y) (hn : n ≤ 5000000000000) : x ≤ 2236068 := by
  refine Int.not_lt.1 fun hh => ?_
  have h1 := mul_le_self (show (0 : Int) ≤ 2236069 by omega) (show (2236069 : Int) ≤ x by omega)
  have := h.lo
  omega
theorem sqInv_half {n x x' y : Int} (hy : 0 < y) (h : SqInv n x y) (hlo : x' * x' ≤ n) (hhi : n < (x' + y) * (x' + y)) : SqInv n x' (y / 2) := by
  refine ⟨hlo, ?_⟩
  rcases h.st with ⟨h1, _⟩ | ⟨j, hj, _⟩
  · omega
  · cases j with
    | zero => left; simp at hj; subst hj; exact ⟨by decide, hhi⟩
    | succ j =>
      right
      refine ⟨j, ?_, ?_⟩
      · rw [hj, Nat.pow_succ]; omega
      · have : 2 * (y / 2) = y := by rw [hj, Nat.pow_succ]; omega
        rw [this]; exact hhi
theorem sqInv_no {n x y : Int} (hy : 0 < y) (h : SqInv n x y) (hno : ¬ (x + y) * (x + y) ≤ n) : SqInv n x (y / 2) := sqInv_half hy h h.lo (by omega)
theorem sqInv_yes {n x y : Int} (hy : 0 < y) (h : SqInv n x y) (hyes : (x + y) * (x + y) ≤ n) : SqInv n (x + y) (y / 2) := by
  refine sqInv_half hy h hyes ?_
  rcases h.st with ⟨h1, _⟩ | ⟨j, _, h2⟩
  · omega
  · have : x + y + y = x + 2 * y := by omega
    rw [this]; exact h2
theorem sqInv_end {n x : Int} (h : SqInv n x 0) (hx : 0 ≤ x) : IsRoot x n := by
  refine ⟨hx, h.lo, ?_⟩
  rcases h.st with ⟨_, h2⟩ | ⟨j, hj, _⟩
  · exact h2
  · have := Nat.two_pow_pos j
    omega
theorem sqB_eq {n x : Int} (h : IsRoot x n) (hn : 0 ≤ n) : (x * x == n) = sqB n := by
  unfold sqB; rw [root_unique h (isqrt_root hn)]
theorem isqrt_le {d K : Int} (h0 : 0 ≤ d) (hK : 0 ≤ K) (h : d < (K + 1) * (K + 1)) : isqrt d ≤ K := by
  have := (isqrt_root h0).lo
  have := lt_of_sq (show 0 ≤ K + 1 by omega) (Int.lt_of_le_of_lt this h)
  omega
theorem isqrt_bd {d : Int} (h0 : 0 ≤ d) (h1 : d ≤ 5000000000000) : 0 ≤ isqrt d ∧ isqrt d ≤ 2236068 := ⟨(isqrt_root h0).nn, isqrt_le h0 (by omega) (by omega)⟩
end Go.Proofs.Ytencfmipplgnkaa
/- Plain facts: definite forms are reduced by steps. -/
namespace Go.Proofs.Ytencfmipplgnkaa
structure M4 where
  p : Int
  q : Int
  r : Int
  s : Int
  deriving DecidableEq
structure RS where
  f : F3
  m : M4
def stepM (f : F3) : M4 := if inB f.y (-f.x + 1) f.x = true then ⟨0, -1, 1, 0⟩ else ⟨1, (-f.x - f.y) / (2 * f.x) + 1, 0, 1⟩
def mulM (m n : M4) : M4 := ⟨m.p * n.p + m.q * n.r, m.p * n.q + m.q * n.s, m.r * n.p + m.s * n.r, m.r * n.q + m.s * n.s⟩
def stepR (c : RS) : RS := ⟨madeForm c.f.x c.f.y c.f.z (stepM c.f).p (stepM c.f).q (stepM c.f).r (stepM c.f).s, mulM c.m (stepM c.f)⟩
def reduceN : Nat → RS → RS
  | 0, c => c
  | k + 1, c => if redB c.f.x c.f.y c.f.z = true then c else reduceN k (stepR c)
theorem reduceN_done {k : Nat} {c : RS} (h : redB c.f.x c.f.y c.f.z = true) : reduceN k c = c := by
  cases k with
  | zero => rfl
  | succ k => unfold reduceN; rw [if_pos h]
theorem reduceN_step {k : Nat} {c : RS} (h : redB c.f.x c.f.y c.f.z = false) : reduceN (k + 1) c = reduceN k (stepR c) := by
  show (if redB c.f.x c.f.y c.f.z = true then c else reduceN k (stepR c)) = _
  rw [h]; simp
def meas (f : F3) : Int := 4 * f.x + (if inB f.y (-f.x + 1) f.x = true then (if f.y < 0 then 2 else 1) else 3)
/-- What holds of a definite form on its way, and of its matrix; a, b, c: the form at the start. -/
structure DefInv (a b c : Int) (t : RS) : Prop where
  sm : Small t.f.x t.f.y t.f.z
  x0 : 0 < t.f.x
  z0 : 0 < t.f.z
  d : disc t.f.x t.f.y t.f.z < 0
  dd : disc t.f.x t.f.y t.f.z = disc a b c
  f1 : formAt a b c t.m.p t.m.r = t.f.x
  f2 : formMid a b c t.m.p t.m.q t.m.r t.m.s = t.f.y
  f3 : formAt a b c t.m.q t.m.s = t.f.z
  det : t.m.p * t.m.s - t.m.q * t.m.r = 1
theorem pos_c {a b c : Int} (h : disc a b c < 0) (ha : 0 < a) : 0 < c := by
  refine Int.not_le.1 fun hc => ?_
  have h1 : 4 * a * c ≤ 0 := by
    have := Int.mul_nonpos_of_nonneg_of_nonpos (show 0 ≤ 4 * a by omega) hc
    exact this
  have h2 := sq_nn b
  unfold disc at h
  omega
theorem inv_start {a b c : Int} (h : Small a b c) (hd : disc a b c < 0) (ha : 0 < a) : DefInv a b c ⟨⟨a, b, c⟩, ⟨1, 0, 0, 1⟩⟩ := by
  refine ⟨h, ha, pos_c hd ha, hd, rfl, ?_, ?_, ?_, ?_⟩ <;> simp [formAt, formMid]
/-- A value of a definite form bounds what it is taken at. -/
theorem at_sq {a b c x y v K : Int} (hd : disc a b c ≤ -3) (hv : formAt a b c x y = v) (ha : 0 < a) (ha1 : a ≤ 1000000) (hv1 : v ≤ 1000000) (hK : K = 1154701) : -K ≤ y ∧ y ≤ K := by
  have e : 4 * a * v = (2 * a * x + b * y) * (2 * a * x + b * y) - disc a b c * (y * y) := by
    rw [← hv]; unfold formAt disc; grind
  have h1 := sq_nn (2 * a * x + b * y)
  have h2 := sq_nn y
  have hv0 : 0 ≤ v ∨ v < 0 := by omega
  have h3 : 3 * (y * y) ≤ 4 * a * v := by
    have := Int.mul_le_mul_of_nonneg_right (show 3 ≤ -disc a b c by omega) h2
    rw [Int.neg_mul] at this
    omega
  have h4 : 4 * a * v ≤ 4000000000000 := by
    rcases hv0 with h | h
    · have := Int.mul_le_mul (show 4 * a ≤ 4000000 by omega) hv1 h (by omega)
      omega
    · have := Int.mul_nonpos_of_nonneg_of_nonpos (show 0 ≤ 4 * a by omega) (show v ≤ 0 by omega)
      omega
  subst hK
  constructor
  · refine Int.not_lt.1 fun hh => ?_
    have := mul_le_self (show (0 : Int) ≤ 1154702 by omega) (show (1154702 : Int) ≤ -y by omega)
    rw [Int.neg_mul_neg] at this
    omega
  · refine Int.not_lt.1 fun hh => ?_
    have := mul_le_self (show (0 : Int) ≤ 1154702 by omega) (show (1154702 : Int) ≤ y by omega)
    omega
theorem at_flip (a b c x y : Int) : formAt a b c x y = formAt c b a y x := by unfold formAt; grind
theorem disc_flip (a b c : Int) : disc a b c = disc c b a := by unfold disc; grind
theorem disc_mod {a b c : Int} (h : disc a b c < 0) : disc a b c ≤ -3 := by
  have h1 : disc a b c = b * b - 4 * (a * c) := by unfold disc; grind
  have h2 : b * b % 4 = 0 ∨ b * b % 4 = 1 := by
    rcases Int.emod_two_eq b with hb | hb
    · left
      have : b = 2 * (b / 2) := by omega
      rw [this, show 2 * (b / 2) * (2 * (b / 2)) = 4 * ((b / 2) * (b / 2)) by grind]; omega
    · right
      have : b = 2 * (b / 2) + 1 := by omega
      rw [this, show (2 * (b / 2) + 1) * (2 * (b / 2) + 1) = 4 * ((b / 2) * (b / 2) + b / 2) + 1 by grind]; omega
  omega
/-- The matrix's numbers stay small. -/
theorem inv_bd {a b c : Int} {t : RS} (h : DefInv a b c t) (hs : Small a b c) (ha : 0 < a) :
    (-1154701 ≤ t.m.p ∧ t.m.p ≤ 1154701) ∧ (-1154701 ≤ t.m.q ∧ t.m.q ≤ 1154701) ∧ (-1154701 ≤ t.m.r ∧ t.m.r ≤ 1154701) ∧ (-1154701 ≤ t.m.s ∧ t.m.s ≤ 1154701) := by
  have hd : disc a b c ≤ -3 := by rw [← h.dd]; exact disc_mod h.d
  have hc : 0 < c := pos_c (show disc a b c < 0 by omega) ha
  have hd' : disc c b a ≤ -3 := by rw [← disc_flip]; exact hd
  obtain ⟨_, a1, _, _, _, c1⟩ := hs
  obtain ⟨_, x1, _, _, _, z1⟩ := h.sm
  exact ⟨at_sq hd' (by rw [← at_flip]; exact h.f1) hc c1 x1 rfl, at_sq hd' (by rw [← at_flip]; exact h.f3) hc c1 z1 rfl, at_sq hd h.f1 ha a1 x1 rfl, at_sq hd h.f3 ha a1 z1 rfl⟩
theorem disc_made (a b c p q r s : Int) : disc (madeForm a b c p q r s).x (madeForm a b c p q r s).y (madeForm a b c p q r s).z = disc a b c * ((p * s - q * r) * (p * s - q * r)) := by
  unfold madeForm disc formAt formMid; grind
theorem made_mul (a b c : Int) (m n : M4) : madeForm (madeForm a b c m.p m.q m.r m.s).x (madeForm a b c m.p m.q m.r m.s).y (madeForm a b c m.p m.q m.r m.s).z n.p n.q n.r n.s = madeForm a b c (mulM m n).p (mulM m n).q (mulM m n).r (mulM m n).s := by
  unfold madeForm mulM formAt formMid
  simp only [F3.mk.injEq]
  refine ⟨by grind, by grind, by grind⟩
theorem det_mul (m n : M4) : (mulM m n).p * (mulM m n).s - (mulM m n).q * (mulM m n).r = (m.p * m.s - m.q * m.r) * (n.p * n.s - n.q * n.r) := by
  unfold mulM; grind
theorem det_step (f : F3) : (stepM f).p * (stepM f).s - (stepM f).q * (stepM f).r = 1 := by
  unfold stepM; split <;> simp
/-- A definite form that isn't reduced: swapped, or moved by k. -/
theorem step_S {f : F3} (h : inB f.y (-f.x + 1) f.x = true) (m : M4) : stepR ⟨f, m⟩ = ⟨⟨f.z, -f.y, f.x⟩, mulM m ⟨0, -1, 1, 0⟩⟩ := by
  unfold stepR stepM
  rw [if_pos h]
  simp [madeForm, formAt, formMid]
def stepK (f : F3) : Int := (-f.x - f.y) / (2 * f.x) + 1
theorem step_T {f : F3} (h : inB f.y (-f.x + 1) f.x = false) (m : M4) : stepR ⟨f, m⟩ = ⟨⟨f.x, f.y + 2 * f.x * stepK f, formAt f.x f.y f.z (stepK f) 1⟩, mulM m ⟨1, stepK f, 0, 1⟩⟩ := by
  unfold stepR stepM
  rw [if_neg (by rw [h]; simp)]
  simp only [madeForm, RS.mk.injEq, F3.mk.injEq]
  refine ⟨⟨?_, ?_, rfl⟩, rfl⟩
  · unfold formAt; grind
  · unfold formMid stepK; grind
/-- The moved middle number lies in -x + 1 .. x. -/
theorem stepK_in {f : F3} (hx : 0 < f.x) : -f.x < f.y + 2 * f.x * stepK f ∧ f.y + 2 * f.x * stepK f ≤ f.x := by
  have h1 := Int.emod_add_mul_ediv (-f.x - f.y) (2 * f.x)
  have h2 := Int.emod_nonneg (-f.x - f.y) (show 2 * f.x ≠ 0 by omega)
  have h3 := Int.emod_lt_of_pos (-f.x - f.y) (show 0 < 2 * f.x by omega)
  unfold stepK
  have h4 : 2 * f.x * ((-f.x - f.y) / (2 * f.x) + 1) = 2 * f.x * ((-f.x - f.y) / (2 * f.x)) + 2 * f.x := by grind
  omega
theorem stepK_bd {f : F3} (hx : 0 < f.x) (hs : Small f.x f.y f.z) : -1700000 ≤ stepK f ∧ stepK f ≤ 1700000 := by
  obtain ⟨_, a1, b0, b1, _, _⟩ := hs
  have h1 := stepK_in hx
  have h2 : -1000001 ≤ stepK f := by
    refine Int.not_lt.1 fun hh => ?_
    have := Int.mul_le_mul_of_nonneg_left (show stepK f ≤ -1000002 by omega) (show 0 ≤ 2 * f.x by omega)
    omega
  have h3 : stepK f ≤ 1000001 := by
    refine Int.not_lt.1 fun hh => ?_
    have := Int.mul_le_mul_of_nonneg_left (show 1000002 ≤ stepK f by omega) (show 0 ≤ 2 * f.x by omega)
    omega
  omega
theorem inv_step {a b c : Int} {t : RS} (h : DefInv a b c t) : DefInv a b c (stepR t) := by
  obtain ⟨f, m⟩ := t
  obtain ⟨sm, x0, z0, d, dd, f1, f2, f3, det⟩ := h
  simp only at *
  have hmade : madeForm a b c m.p m.q m.r m.s = f := by
    unfold madeForm; rw [f1, f2, f3]
  have hm2 : madeForm a b c (stepR ⟨f, m⟩).m.p (stepR ⟨f, m⟩).m.q (stepR ⟨f, m⟩).m.r (stepR ⟨f, m⟩).m.s = (stepR ⟨f, m⟩).f := by
    have := made_mul a b c m (stepM f)
    rw [hmade] at this
    exact this.symm
  have hdet : (stepR ⟨f, m⟩).m.p * (stepR ⟨f, m⟩).m.s - (stepR ⟨f, m⟩).m.q * (stepR ⟨f, m⟩).m.r = 1 := by
    have := det_mul m (stepM f)
    rw [det, det_step] at this
    simpa [stepR] using this
  have hdisc : disc (stepR ⟨f, m⟩).f.x (stepR ⟨f, m⟩).f.y (stepR ⟨f, m⟩).f.z = disc f.x f.y f.z := by
    have := disc_made f.x f.y f.z (stepM f).p (stepM f).q (stepM f).r (stepM f).s
    rw [det_step] at this
    simpa [stepR] using this
  have hfin : Small (stepR ⟨f, m⟩).f.x (stepR ⟨f, m⟩).f.y (stepR ⟨f, m⟩).f.z ∧ 0 < (stepR ⟨f, m⟩).f.x := by
    cases hi : inB f.y (-f.x + 1) f.x
    · have hk := @stepK_in f x0
      have hno := inB_no.1 hi
      have hT := step_T hi m
      rw [hT] at hdisc ⊢
      simp only at hdisc ⊢
      have hz : 0 < formAt f.x f.y f.z (stepK f) 1 := pos_c (b := f.y + 2 * f.x * stepK f) (a := f.x) (by rw [hdisc]; exact d) x0
      have hle : formAt f.x f.y f.z (stepK f) 1 ≤ f.z := by
        generalize formAt f.x f.y f.z (stepK f) 1 = z' at hdisc hz
        generalize f.y + 2 * f.x * stepK f = y' at hdisc hk
        have h1 : y' * y' ≤ f.y * f.y := by
          rcases Int.le_total 0 y' with h | h <;> rcases Int.le_total 0 f.y with h' | h'
          · exact mul_le_self h (by omega)
          · have := mul_le_self h (show y' ≤ -f.y by omega); rwa [Int.neg_mul_neg] at this
          · have := mul_le_self (show 0 ≤ -y' by omega) (show -y' ≤ f.y by omega); rwa [Int.neg_mul_neg] at this
          · have := mul_le_self (show 0 ≤ -y' by omega) (show -y' ≤ -f.y by omega); rwa [Int.neg_mul_neg, Int.neg_mul_neg] at this
        unfold disc at hdisc
        have h2 : 4 * f.x * z' ≤ 4 * f.x * f.z := by omega
        exact Int.le_of_mul_le_mul_left h2 (by omega)
      obtain ⟨a0, a1, b0, b1, c0, c1⟩ := sm
      exact ⟨⟨by omega, a1, by omega, by omega, by omega, by omega⟩, x0⟩
    · rw [step_S hi m]
      obtain ⟨a0, a1, b0, b1, c0, c1⟩ := sm
      exact ⟨⟨c0, c1, by simp only; omega, by simp only; omega, a0, a1⟩, z0⟩
  refine ⟨hfin.1, hfin.2, pos_c (by rw [hdisc]; exact d) hfin.2, by rw [hdisc]; exact d, by rw [hdisc]; exact dd, ?_, ?_, ?_, hdet⟩
  · exact congrArg F3.x hm2
  · exact congrArg F3.y hm2
  · exact congrArg F3.z hm2
theorem meas_step {a b c : Int} {t : RS} (h : DefInv a b c t) (hr : redB t.f.x t.f.y t.f.z = false) : meas (stepR t).f < meas t.f := by
  obtain ⟨f, m⟩ := t
  obtain ⟨sm, x0, z0, d, -, -, -, -, -⟩ := h
  simp only at *
  cases hi : inB f.y (-f.x + 1) f.x
  · have hk := @stepK_in f x0
    rw [step_T hi m]
    have hi2 : inB (f.y + 2 * f.x * stepK f) (-f.x + 1) f.x = true := inB_iff.2 (by omega)
    unfold meas
    simp only [hi, hi2]
    simp only [if_true, Bool.false_eq_true, if_false]
    split <;> omega
  · have hy := inB_iff.1 hi
    rw [step_S hi m]
    unfold redB at hr
    rw [if_pos ⟨d, x0⟩] at hr
    simp [redDef] at hr
    unfold meas
    simp only [hi, if_true]
    by_cases hxz : f.z < f.x
    · have : ∀ u : Int, u ≤ 3 → 4 * f.z + u < 4 * f.x + 1 := by intro u hu; omega
      have h1 := this (if inB (-f.y) (-f.z + 1) f.z = true then if -f.y < 0 then 2 else 1 else 3) (by split <;> (try split) <;> omega)
      split <;> omega
    · have hr2 := hr (by omega) (by omega) (by omega)
      have hyn : f.y < 0 := by omega
      have hxe : f.x = f.z := by
        have := hr2.2
        by_cases e : -f.y = f.x
        · omega
        · exact this e
      have hi2 : inB (-f.y) (-f.z + 1) f.z = true := inB_iff.2 (by omega)
      simp only [hi2, if_true]
      rw [if_neg (by omega), if_pos hyn]
      omega
theorem meas_pos {a b c : Int} {t : RS} (h : DefInv a b c t) : 0 ≤ meas t.f := by
  have := h.x0
  unfold meas
  split <;> (try split) <;> omega
/-- The reduced form and its matrix. -/
def reduceOf (a b c : Int) : RS := reduceN (meas ⟨a, b, c⟩).toNat ⟨⟨a, b, c⟩, ⟨1, 0, 0, 1⟩⟩
end Go.Proofs.Ytencfmipplgnkaa
