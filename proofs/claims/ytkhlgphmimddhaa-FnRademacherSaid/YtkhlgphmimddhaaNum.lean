/- Facts about whole numbers, no program in sight. -/
namespace Go.Proofs.Ytkhlgphmimddhaa
theorem mul_bd {a b A B : Int} (h1 : -A ≤ a) (h2 : a ≤ A) (h3 : -B ≤ b) (h4 : b ≤ B) : -(A * B) ≤ a * b ∧ a * b ≤ A * B := by
  have hA : 0 ≤ A := by omega
  have hB : 0 ≤ B := by omega
  have e : ∀ x y X Y : Int, 0 ≤ X → 0 ≤ Y → -X ≤ x → x ≤ X → -Y ≤ y → y ≤ Y → x * y ≤ X * Y := by
    intro x y X Y hX hY a1 a2 b1 b2
    rcases Int.le_total 0 x with h | h
    · exact Int.le_trans (Int.mul_le_mul_of_nonneg_left b2 h) (Int.mul_le_mul_of_nonneg_right a2 hY)
    · have : x * y = (-x) * (-y) := by rw [Int.neg_mul_neg]
      rw [this]
      exact Int.le_trans (Int.mul_le_mul_of_nonneg_left (show -y ≤ Y by omega) (show 0 ≤ -x by omega)) (Int.mul_le_mul_of_nonneg_right (show -x ≤ X by omega) hY)
  refine ⟨?_, e a b A B hA hB h1 h2 h3 h4⟩
  have := e (-a) b A B hA hB (by omega) (by omega) h3 h4
  rw [Int.neg_mul] at this
  omega
theorem sq_nn (a : Int) : 0 ≤ a * a := by
  rcases Int.le_total 0 a with h | h
  · exact Int.mul_nonneg h h
  · have : a * a = (-a) * (-a) := by rw [Int.neg_mul_neg]
    rw [this]; exact Int.mul_nonneg (by omega) (by omega)
def allB (n : Nat) (f : Nat → Bool) : Bool := (List.range n).all f
theorem allB_succ {n : Nat} {f : Nat → Bool} (h : allB n f = true) (h1 : f n = true) : allB (n + 1) f = true := by
  unfold allB at *; rw [List.range_succ, List.all_append, h]; simp [h1]
theorem allB_false {n k : Nat} {f : Nat → Bool} (hk : k < n) (h1 : f k = false) : allB n f = false := by
  unfold allB; rw [List.all_eq_false]; exact ⟨k, by simpa using hk, by simp [h1]⟩
def inB (n a b : Int) : Bool := decide (a ≤ n) && decide (n ≤ b)
def entB (n : Int) : Bool := inB n (-1000000000) 1000000000
theorem entB_iff {n : Int} : entB n = true ↔ -1000000000 ≤ n ∧ n ≤ 1000000000 := by simp [entB, inB]
theorem entB_no {n : Int} : entB n = false ↔ ¬ (-1000000000 ≤ n ∧ n ≤ 1000000000) := by rw [← entB_iff]; simp
def isMat (a b c d : Int) : Bool := entB a && (entB b && (entB c && (entB d && a * d - b * c == 1)))
structure IsMat (a b c d : Int) : Prop where
  a0 : -1000000000 ≤ a
  a1 : a ≤ 1000000000
  b0 : -1000000000 ≤ b
  b1 : b ≤ 1000000000
  c0 : -1000000000 ≤ c
  c1 : c ≤ 1000000000
  d0 : -1000000000 ≤ d
  d1 : d ≤ 1000000000
  det : a * d - b * c = 1
theorem isMat_iff {a b c d : Int} : isMat a b c d = true ↔ IsMat a b c d := by
  simp only [isMat, Bool.and_eq_true, entB_iff, beq_iff_eq]
  exact ⟨fun ⟨⟨h1, h2⟩, ⟨h3, h4⟩, ⟨h5, h6⟩, ⟨h7, h8⟩, h9⟩ => ⟨h1, h2, h3, h4, h5, h6, h7, h8, h9⟩, fun h => ⟨⟨h.a0, h.a1⟩, ⟨h.b0, h.b1⟩, ⟨h.c0, h.c1⟩, ⟨h.d0, h.d1⟩, h.det⟩⟩
def kindOf (a b c d : Int) : Int := if b = 0 ∧ c = 0 then 0 else if (a + d).natAbs < 2 then 1 else if (a + d).natAbs = 2 then 2 else 3
theorem diag {a b c d : Int} (h : a * d - b * c = 1) (hb : b = 0) (hc : c = 0) : (a = 1 ∧ d = 1) ∨ (a = -1 ∧ d = -1) := by
  subst hb; subst hc
  have h1 : a * d = 1 := by simpa using h
  have h2 := congrArg Int.natAbs h1
  rw [Int.natAbs_mul] at h2
  obtain ⟨h3, h4⟩ : a.natAbs = 1 ∧ d.natAbs = 1 := ⟨Nat.eq_one_of_mul_eq_one_left (by rw [Nat.mul_comm]; exact h2), Nat.eq_one_of_mul_eq_one_left h2⟩
  rcases (show a = 1 ∨ a = -1 by omega) with h5 | h5
  · subst h5; left; exact ⟨rfl, by simpa using h1⟩
  · subst h5; right; exact ⟨rfl, by omega⟩
def isForm (a b c : Int) : Bool := inB a (-1000000) 1000000 && (inB b (-1000000) 1000000 && (inB c (-1000000) 1000000 && !(a == 0 && (b == 0 && c == 0))))
structure Small (a b c : Int) : Prop where
  a0 : -1000000 ≤ a
  a1 : a ≤ 1000000
  b0 : -1000000 ≤ b
  b1 : b ≤ 1000000
  c0 : -1000000 ≤ c
  c1 : c ≤ 1000000
theorem small_of {a b c : Int} (h : isForm a b c = true) : Small a b c := by
  simp [isForm, inB] at h
  exact ⟨by omega, by omega, by omega, by omega, by omega, by omega⟩
def formAt (a b c x y : Int) : Int := a * x * x + b * x * y + c * y * y
def formMid (a b c p q r s : Int) : Int := 2 * a * p * q + b * (p * s + q * r) + 2 * c * r * s
def smallB (a b c : Int) : Bool := inB a (-1000000) 1000000 && (inB b (-1000000) 1000000 && inB c (-1000000) 1000000)
end Go.Proofs.Ytkhlgphmimddhaa
namespace Go.Proofs.Ytkhlgphmimddhaa
def smallM (p q r s : Int) : Bool := inB p (-1000) 1000 && (inB q (-1000) 1000 && (inB r (-1000) 1000 && inB s (-1000) 1000))
theorem smallM_iff {p q r s : Int} : smallM p q r s = true ↔ (-1000 ≤ p ∧ p ≤ 1000) ∧ (-1000 ≤ q ∧ q ≤ 1000) ∧ (-1000 ≤ r ∧ r ≤ 1000) ∧ (-1000 ≤ s ∧ s ≤ 1000) := by simp [smallM, inB]
theorem smallM_no {p q r s : Int} : smallM p q r s = false ↔ ¬ ((-1000 ≤ p ∧ p ≤ 1000) ∧ (-1000 ≤ q ∧ q ≤ 1000) ∧ (-1000 ≤ r ∧ r ≤ 1000) ∧ (-1000 ≤ s ∧ s ≤ 1000)) := by rw [← smallM_iff]; simp
end Go.Proofs.Ytkhlgphmimddhaa
namespace Go.Proofs.Ytkhlgphmimddhaa
def discOf (a b c : Int) : Int × Int := if isForm a b c = true then (b * b - 4 * a * c, 0) else (0, 1)
theorem discOf_no {a b c : Int} (h : isForm a b c = false) : discOf a b c = (0, 1) := by simp [discOf, h]
theorem discOf_yes {a b c : Int} (h : isForm a b c = true) : discOf a b c = (b * b - 4 * a * c, 0) := by simp [discOf, h]
end Go.Proofs.Ytkhlgphmimddhaa
namespace Go.Proofs.Ytkhlgphmimddhaa
def valAt (a b c x y : Int) : Int × Int := if isForm a b c = true then (if inB x (-1000) 1000 = true then (if inB y (-1000) 1000 = true then (formAt a b c x y, 0) else (0, 2)) else (0, 2)) else (0, 1)
theorem inB_iff {n a b : Int} : inB n a b = true ↔ a ≤ n ∧ n ≤ b := by simp [inB]
theorem inB_no {n a b : Int} : inB n a b = false ↔ ¬ (a ≤ n ∧ n ≤ b) := by rw [← inB_iff]; simp
/-- What 'applied' and 'l05Code' say. -/
def appliedCode (a b c p q r s : Int) : Int := if isForm a b c = true then (if isMat p q r s = true then (if smallM p q r s = true then 0 else 2) else 1) else 1
structure F3 where
  x : Int
  y : Int
  z : Int
  deriving DecidableEq
def madeForm (a b c p q r s : Int) : F3 := ⟨formAt a b c p r, formMid a b c p q r s, formAt a b c q s⟩
def applyM (a b c p q r s : Int) : F3 × Int :=
  if appliedCode a b c p q r s = 0 then (if smallB (madeForm a b c p q r s).x (madeForm a b c p q r s).y (madeForm a b c p q r s).z = true then (madeForm a b c p q r s, 0) else (⟨0, 0, 0⟩, 3)) else (⟨0, 0, 0⟩, appliedCode a b c p q r s)
def keepsF (a b c p q r s : Int) : Bool × Int :=
  if appliedCode a b c p q r s = 0 then ((formAt a b c p r == a && (formMid a b c p q r s == b && formAt a b c q s == c)), 0) else (false, appliedCode a b c p q r s)
end Go.Proofs.Ytkhlgphmimddhaa
