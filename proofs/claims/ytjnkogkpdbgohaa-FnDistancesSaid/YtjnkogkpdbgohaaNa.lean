/- Plain facts that the walks lean on, without the program: numbers, entries, forms, primes, normal pairs, cosets, cycles. No condition beyond each theorem's own. -/
/- Facts about whole numbers, no program in sight. -/
namespace Go.Proofs.Ytjnkogkpdbgohaa
theorem mul_bd {a b A B : Int} (h1 : -A ≤ a) (h2 : a ≤ A) (h3 : -B ≤ b) (h4 : b ≤ B) : -(A * B) ≤ a * b ∧ a * b ≤ A * B := by
  have hA : 0 ≤ A := by omega
  have hB : 0 ≤ B := by omega
  have e : ∀ x y X Y : Int, 0 ≤ X → 0 ≤ Y → -X ≤ x → x ≤ X → -Y ≤ y → y ≤ Y → x * y ≤ X * Y := by
    intro x y X Y hX hY a1 a2 b1 b2
    rcases Int.le_total 0 x with h | h
    · exact Int.le_trans (Int.mul_le_mul_of_nonneg_left b2 h) (Int.mul_le_mul_of_nonneg_right a2 hY)
    · have : x * y = (-x) * (-y) := by rw [Int.neg_mul_neg]
      rw [this]
      exact Int.le_trans (Int.mul_le_mul_of_nonneg_left (show -y ≤ Y by omega) (show 0 ≤ -x by omega)) (Int.mul_le_mul_of_nonneg_right (show -x ≤ X by omega) hY)
  refine ⟨?_, e a b A B hA hB h1 h2 h3 h4⟩
  have := e (-a) b A B hA hB (by omega) (by omega) h3 h4
  rw [Int.neg_mul] at this
  omega
theorem sq_nn (a : Int) : 0 ≤ a * a := by
  rcases Int.le_total 0 a with h | h
  · exact Int.mul_nonneg h h
  · have : a * a = (-a) * (-a) := by rw [Int.neg_mul_neg]
    rw [this]; exact Int.mul_nonneg (by omega) (by omega)
def allB (n : Nat) (f : Nat → Bool) : Bool := (List.range n).all f
theorem allB_succ {n : Nat} {f : Nat → Bool} (h : allB n f = true) (h1 : f n = true) : allB (n + 1) f = true := by
  unfold allB at *; rw [List.range_succ, List.all_append, h]; simp [h1]
theorem allB_false {n k : Nat} {f : Nat → Bool} (hk : k < n) (h1 : f k = false) : allB n f = false := by
  unfold allB; rw [List.all_eq_false]; exact ⟨k, by simpa using hk, by simp [h1]⟩
def inB (n a b : Int) : Bool := decide (a ≤ n) && decide (n ≤ b)
def entB (n : Int) : Bool := inB n (-1000000000) 1000000000
theorem entB_iff {n : Int} : entB n = true ↔ -1000000000 ≤ n ∧ n ≤ 1000000000 := by simp [entB, inB]
theorem entB_no {n : Int} : entB n = false ↔ ¬ (-1000000000 ≤ n ∧ n ≤ 1000000000) := by rw [← entB_iff]; simp
def isMat (a b c d : Int) : Bool := entB a && (entB b && (entB c && (entB d && a * d - b * c == 1)))
structure IsMat (a b c d : Int) : Prop where
  a0 : -1000000000 ≤ a
  a1 : a ≤ 1000000000
  b0 : -1000000000 ≤ b
  b1 : b ≤ 1000000000
  c0 : -1000000000 ≤ c
  c1 : c ≤ 1000000000
  d0 : -1000000000 ≤ d
  d1 : d ≤ 1000000000
  det : a * d - b * c = 1
theorem isMat_iff {a b c d : Int} : isMat a b c d = true ↔ IsMat a b c d := by
  simp only [isMat, Bool.and_eq_true, entB_iff, beq_iff_eq]
  exact ⟨fun ⟨⟨h1, h2⟩, ⟨h3, h4⟩, ⟨h5, h6⟩, ⟨h7, h8⟩, h9⟩ => ⟨h1, h2, h3, h4, h5, h6, h7, h8, h9⟩, fun h => ⟨⟨h.a0, h.a1⟩, ⟨h.b0, h.b1⟩, ⟨h.c0, h.c1⟩, ⟨h.d0, h.d1⟩, h.det⟩⟩
def kindOf (a b c d : Int) : Int := if b = 0 ∧ c = 0 then 0 else if (a + d).natAbs < 2 then 1 else if (a + d).natAbs = 2 then 2 else 3
theorem diag {a b c d : Int} (h : a * d - b * c = 1) (hb : b = 0) (hc : c = 0) : (a = 1 ∧ d = 1) ∨ (a = -1 ∧ d = -1) := by
  subst hb; subst hc
  have h1 : a * d = 1 := by simpa using h
  have h2 := congrArg Int.natAbs h1
  rw [Int.natAbs_mul] at h2
  obtain ⟨h3, h4⟩ : a.natAbs = 1 ∧ d.natAbs = 1 := ⟨Nat.eq_one_of_mul_eq_one_left (by rw [Nat.mul_comm]; exact h2), Nat.eq_one_of_mul_eq_one_left h2⟩
  rcases (show a = 1 ∨ a = -1 by omega) with h5 | h5
  · subst h5; left; exact ⟨rfl, by simpa using h1⟩
  · subst h5; right; exact ⟨rfl, by omega⟩
def isForm (a b c : Int) : Bool := inB a (-1000000) 1000000 && (inB b (-1000000) 1000000 && (inB c (-1000000) 1000000 && !(a == 0 && (b == 0 && c == 0))))
structure Small (a b c : Int) : Prop where
  a0 : -1000000 ≤ a
  a1 : a ≤ 1000000
  b0 : -1000000 ≤ b
  b1 : b ≤ 1000000
  c0 : -1000000 ≤ c
  c1 : c ≤ 1000000
theorem small_of {a b c : Int} (h : isForm a b c = true) : Small a b c := by
  simp [isForm, inB] at h
  exact ⟨by omega, by omega, by omega, by omega, by omega, by omega⟩
def formAt (a b c x y : Int) : Int := a * x * x + b * x * y + c * y * y
def formMid (a b c p q r s : Int) : Int := 2 * a * p * q + b * (p * s + q * r) + 2 * c * r * s
def smallB (a b c : Int) : Bool := inB a (-1000000) 1000000 && (inB b (-1000000) 1000000 && inB c (-1000000) 1000000)
end Go.Proofs.Ytjnkogkpdbgohaa
namespace Go.Proofs.Ytjnkogkpdbgohaa
def smallM (p q r s : Int) : Bool := inB p (-1000) 1000 && (inB q (-1000) 1000 && (inB r (-1000) 1000 && inB s (-1000) 1000))
theorem smallM_iff {p q r s : Int} : smallM p q r s = true ↔ (-1000 ≤ p ∧ p ≤ 1000) ∧ (-1000 ≤ q ∧ q ≤ 1000) ∧ (-1000 ≤ r ∧ r ≤ 1000) ∧ (-1000 ≤ s ∧ s ≤ 1000) := by simp [smallM, inB]
theorem smallM_no {p q r s : Int} : smallM p q r s = false ↔ ¬ ((-1000 ≤ p ∧ p ≤ 1000) ∧ (-1000 ≤ q ∧ q ≤ 1000) ∧ (-1000 ≤ r ∧ r ≤ 1000) ∧ (-1000 ≤ s ∧ s ≤ 1000)) := by rw [← smallM_iff]; simp
end Go.Proofs.Ytjnkogkpdbgohaa
namespace Go.Proofs.Ytjnkogkpdbgohaa
def discOf (a b c : Int) : Int × Int := if isForm a b c = true then (b * b - 4 * a * c, 0) else (0, 1)
theorem discOf_no {a b c : Int} (h : isForm a b c = false) : discOf a b c = (0, 1) := by simp [discOf, h]
theorem discOf_yes {a b c : Int} (h : isForm a b c = true) : discOf a b c = (b * b - 4 * a * c, 0) := by simp [discOf, h]
end Go.Proofs.Ytjnkogkpdbgohaa
namespace Go.Proofs.Ytjnkogkpdbgohaa
def valAt (a b c x y : Int) : Int × Int := if isForm a b c = true then (if inB x (-1000) 1000 = true then (if inB y (-1000) 1000 = true then (formAt a b c x y, 0) else (0, 2)) else (0, 2)) else (0, 1)
theorem inB_iff {n a b : Int} : inB n a b = true ↔ a ≤ n ∧ n ≤ b := by simp [inB]
theorem inB_no {n a b : Int} : inB n a b = false ↔ ¬ (a ≤ n ∧ n ≤ b) := by rw [← inB_iff]; simp
/-- What 'applied' and 'l05Code' say. -/
def appliedCode (a b c p q r s : Int) : Int := if isForm a b c = true then (if isMat p q r s = true then (if smallM p q r s = true then 0 else 2) else 1) else 1
structure F3 where
  x : Int
  y : Int
  z : Int
  deriving DecidableEq
def madeForm (a b c p q r s : Int) : F3 := ⟨formAt a b c p r, formMid a b c p q r s, formAt a b c q s⟩
def applyM (a b c p q r s : Int) : F3 × Int :=
  if appliedCode a b c p q r s = 0 then (if smallB (madeForm a b c p q r s).x (madeForm a b c p q r s).y (madeForm a b c p q r s).z = true then (madeForm a b c p q r s, 0) else (⟨0, 0, 0⟩, 3)) else (⟨0, 0, 0⟩, appliedCode a b c p q r s)
def keepsF (a b c p q r s : Int) : Bool × Int :=
  if appliedCode a b c p q r s = 0 then ((formAt a b c p r == a && (formMid a b c p q r s == b && formAt a b c q s == c)), 0) else (false, appliedCode a b c p q r s)
end Go.Proofs.Ytjnkogkpdbgohaa
/- Plain facts on made forms. -/
namespace Go.Proofs.Ytjnkogkpdbgohaa
theorem made_bd {a b c p q r s : Int} (h : Small a b c) (hs : smallM p q r s = true) :
    (-9000000000000000000 ≤ formAt a b c p r ∧ formAt a b c p r ≤ 9000000000000000000) ∧ (-9000000000000000000 ≤ formMid a b c p q r s ∧ formMid a b c p q r s ≤ 9000000000000000000) ∧ (-9000000000000000000 ≤ formAt a b c q s ∧ formAt a b c q s ≤ 9000000000000000000) := by
  obtain ⟨a0, a1, b0, b1, c0, c1⟩ := h
  obtain ⟨⟨p0, p1⟩, ⟨q0, q1⟩, ⟨r0, r1⟩, s0, s1⟩ := smallM_iff.1 hs
  have at_ : ∀ x y : Int, -1000 ≤ x → x ≤ 1000 → -1000 ≤ y → y ≤ 1000 → -9000000000000000000 ≤ formAt a b c x y ∧ formAt a b c x y ≤ 9000000000000000000 := by
    intro x y x0 x1 y0 y1
    have e1 := mul_bd a0 a1 x0 x1
    have e2 := mul_bd e1.1 e1.2 x0 x1
    have e3 := mul_bd b0 b1 x0 x1
    have e4 := mul_bd e3.1 e3.2 y0 y1
    have e5 := mul_bd c0 c1 y0 y1
    have e6 := mul_bd e5.1 e5.2 y0 y1
    unfold formAt
    omega
  refine ⟨at_ p r p0 p1 r0 r1, ?_, at_ q s q0 q1 s0 s1⟩
  have e1 := mul_bd (a := 2 * a) (b := p) (A := 2000000) (B := 1000) (by omega) (by omega) p0 p1
  have e2 := mul_bd e1.1 e1.2 q0 q1
  have e3 := mul_bd p0 p1 s0 s1
  have e4 := mul_bd q0 q1 r0 r1
  have e5 := mul_bd (a := b) (b := p * s + q * r) (A := 1000000) (B := 2000000) b0 b1 (by omega) (by omega)
  have e6 := mul_bd (a := 2 * c) (b := r) (A := 2000000) (B := 1000) (by omega) (by omega) r0 r1
  have e7 := mul_bd e6.1 e6.2 s0 s1
  unfold formMid
  omega
/-- A matrix with the determinant 1 makes no form 0. -/
theorem made_ne {a b c p q r s : Int} (h : isForm a b c = true) (hd : p * s - q * r = 1) : ¬ (formAt a b c p r = 0 ∧ formMid a b c p q r s = 0 ∧ formAt a b c q s = 0) := by
  rintro ⟨h1, h2, h3⟩
  have ha : a = formAt a b c p r * s * s - formMid a b c p q r s * s * r + formAt a b c q s * r * r := by
    have : a = a * ((p * s - q * r) * (p * s - q * r)) := by rw [hd]; simp
    unfold formAt formMid
    grind
  have hc : c = formAt a b c p r * q * q - formMid a b c p q r s * p * q + formAt a b c q s * p * p := by
    have : c = c * ((p * s - q * r) * (p * s - q * r)) := by rw [hd]; simp
    unfold formAt formMid
    grind
  have hb : b = -2 * formAt a b c p r * q * s + formMid a b c p q r s * (p * s + q * r) - 2 * formAt a b c q s * p * r := by
    have : b = b * ((p * s - q * r) * (p * s - q * r)) := by rw [hd]; simp
    unfold formAt formMid
    grind
  rw [h1, h2, h3] at ha hb hc
  simp at ha hb hc
  subst ha; subst hb; subst hc
  simp [isForm] at h
theorem small_form {a b c : Int} (h : ¬ (a = 0 ∧ b = 0 ∧ c = 0)) : isForm a b c = smallB a b c := by
  rw [Bool.eq_iff_iff]
  simp [isForm, smallB, inB]
  omega
theorem appliedCode_0 {a b c p q r s : Int} (h : appliedCode a b c p q r s = 0) : isForm a b c = true ∧ isMat p q r s = true ∧ smallM p q r s = true := by
  unfold appliedCode at h
  split at h
  · split at h
    · split at h
      · exact ⟨‹_›, ‹_›, ‹_›⟩
      · omega
    · omega
  · omega
theorem appliedCode_yes {a b c p q r s : Int} (h1 : isForm a b c = true) (h2 : isMat p q r s = true) (h3 : smallM p q r s = true) : appliedCode a b c p q r s = 0 := by simp [appliedCode, h1, h2, h3]
end Go.Proofs.Ytjnkogkpdbgohaa
namespace Go.Proofs.Ytjnkogkpdbgohaa
/-- What an int64 holds. -/
def I64 (x : Int) : Prop := -9223372036854775808 ≤ x ∧ x ≤ 9223372036854775807
end Go.Proofs.Ytjnkogkpdbgohaa
/- Plain facts: rests, quotients rounded down, greatest common divisors. -/
namespace Go.Proofs.Ytjnkogkpdbgohaa
theorem tmod_bd {a n : Int} (hn : 0 < n) : -n < a.tmod n ∧ a.tmod n < n := by
  have h1 := Int.natAbs_tmod a n
  have h2 : a.natAbs % n.natAbs < n.natAbs := Nat.mod_lt _ (by omega)
  omega
theorem rest_eq {a n : Int} (hn : 0 < n) : (a.tmod n + n).tmod n = a % n := by
  have h := @tmod_bd a n hn
  rw [Int.tmod_eq_emod_of_nonneg (by omega), Int.add_emod_right, Int.tmod_eq_emod]
  split
  · simp
  · rw [Int.sub_emod, Int.emod_emod_of_dvd _ (Int.dvd_refl n)]
    have : (n.natAbs : Int) = n := by omega
    rw [this, Int.emod_self]; simp
theorem rest_eq' {a n : Int} (hn : 0 < n) : (a.tmod n + n) % n = a % n := by
  have h := @tmod_bd a n hn
  have h2 := @rest_eq a n hn
  rw [Int.tmod_eq_emod_of_nonneg (by omega)] at h2
  exact h2
theorem ediv_bd {a b K : Int} (hb : 0 < b) (h1 : -K ≤ a) (h2 : a ≤ K) : -K ≤ a / b ∧ a / b ≤ K := by
  rcases Int.le_total 0 a with h | h
  · have := Int.ediv_nonneg h (Int.le_of_lt hb)
    have := Int.ediv_le_self b h
    omega
  · have h3 : a ≤ a / b := (Int.le_ediv_iff_mul_le hb).2 (by
      have := Int.mul_le_mul_of_nonpos_left h (show (1 : Int) ≤ b by omega)
      omega)
    have h4 : a / b ≤ 0 := Int.ediv_nonpos_of_nonpos_of_neg h (by omega)
    omega
theorem floor_t {a b : Int} (hb : 0 < b) (h : a.tmod b ≠ 0) (ha : a < 0) : a.tdiv b - 1 = a / b := by
  rw [Int.tdiv_eq_ediv]
  have : ¬ (0 ≤ a ∨ b ∣ a) := by
    rintro (h1 | h1)
    · omega
    · exact h (Int.tmod_eq_zero_of_dvd h1)
  rw [if_neg this, Int.sign_eq_one_of_pos hb]; omega
theorem floor_z {a b : Int} (h : a.tmod b = 0) : a.tdiv b = a / b := by
  rw [Int.tdiv_eq_ediv, if_pos (.inr (Int.dvd_of_tmod_eq_zero h))]; omega
theorem floor_p {a b : Int} (h : 0 ≤ a) : a.tdiv b = a / b := Int.tdiv_eq_ediv_of_nonneg h
theorem gcd_step {p q : Int} (_hq : q ≠ 0) : Int.gcd q (p.tmod q) = Int.gcd p q := by
  show Nat.gcd q.natAbs (p.tmod q).natAbs = Nat.gcd p.natAbs q.natAbs
  rw [Int.natAbs_tmod, Nat.gcd_comm p.natAbs, Nat.gcd_rec q.natAbs p.natAbs, Nat.gcd_comm]
theorem tmod_lt {p q : Int} (hq : q ≠ 0) : (p.tmod q).natAbs < q.natAbs := by
  rw [Int.natAbs_tmod]; exact Nat.mod_lt _ (by omega)
theorem gcd_zero' {p q : Int} (hq : q = 0) : (Int.gcd p q : Int) = p.natAbs := by subst hq; simp
theorem tmod_small {p q K : Int} (hq : q ≠ 0) (h1 : -K ≤ q) (h2 : q ≤ K) : -K ≤ p.tmod q ∧ p.tmod q ≤ K := by
  have := @tmod_lt p q hq
  omega
end Go.Proofs.Ytjnkogkpdbgohaa
/- Plain: ways between pairs of numbers, and their distances. -/
namespace Go.Proofs.Ytjnkogkpdbgohaa
structure V2 where
  p : Int
  q : Int
  deriving DecidableEq
def vdet (u v : V2) : Int := u.p * v.q - u.q * v.p
def Adj (u v : V2) : Prop := vdet u v = 1 ∨ vdet u v = -1
def vneg (u : V2) : V2 := ⟨-u.p, -u.q⟩
def Same (u v : V2) : Prop := v = u ∨ v = vneg u
/-- A way of n steps between neighbours; signs do not matter. -/
def Wk : Nat → V2 → V2 → Prop
  | 0, u, v => Same u v
  | n + 1, u, v => ∃ x, Wk n u x ∧ Adj x v
theorem vneg_neg (u : V2) : vneg (vneg u) = u := by cases u; simp [vneg]
theorem vdet_negr (u v : V2) : vdet u (vneg v) = -vdet u v := by unfold vdet vneg; grind
theorem vdet_negl (u v : V2) : vdet (vneg u) v = -vdet u v := by unfold vdet vneg; grind
theorem vdet_swap (u v : V2) : vdet v u = -vdet u v := by unfold vdet; grind
theorem vdet_self (u : V2) : vdet u u = 0 := by unfold vdet; grind
theorem Adj.symm {u v : V2} (h : Adj u v) : Adj v u := by unfold Adj at *; rw [vdet_swap u v]; omega
theorem Adj.negr {u v : V2} (h : Adj u v) : Adj u (vneg v) := by unfold Adj at *; rw [vdet_negr]; omega
theorem Adj.negl {u v : V2} (h : Adj u v) : Adj (vneg u) v := by unfold Adj at *; rw [vdet_negl]; omega
theorem Same.refl (u : V2) : Same u u := .inl rfl
theorem Same.symm {u v : V2} (h : Same u v) : Same v u := by
  rcases h with rfl | rfl
  · exact .inl rfl
  · exact .inr (vneg_neg u).symm
theorem Same.neg {u v : V2} (h : Same u v) : Same u (vneg v) := by
  rcases h with rfl | rfl
  · exact .inr rfl
  · exact .inl (vneg_neg u)
theorem Wk.neg : ∀ {n : Nat} {u v : V2}, Wk n u v → Wk n u (vneg v)
  | 0, _, _, h => Same.neg h
  | _ + 1, _, _, ⟨x, h, ha⟩ => ⟨x, h, ha.negr⟩
theorem Wk.same {n : Nat} {u v v' : V2} (h : Wk n u v) (hs : Same v v') : Wk n u v' := by
  rcases hs with rfl | rfl
  · exact h
  · exact h.neg
theorem Wk.trans : ∀ {n m : Nat} {u x v : V2}, Wk m u x → Wk n x v → Wk (m + n) u v
  | 0, _, _, _, _, h, h' => h.same h'
  | _ + 1, _, _, _, _, h, ⟨y, h', ha⟩ => ⟨y, h.trans h', ha⟩
theorem Wk.one {u v : V2} (h : Adj u v) : Wk 1 u v := ⟨u, .inl rfl, h⟩
theorem Wk.symm : ∀ {n : Nat} {u v : V2}, Wk n u v → Wk n v u
  | 0, _, _, h => Same.symm h
  | n + 1, _, _, ⟨_, h, ha⟩ => by
    have h1 := (Wk.one ha.symm).trans h.symm
    rwa [Nat.add_comm 1 n] at h1
theorem Wk.samel {n : Nat} {u u' v : V2} (h : Wk n u v) (hs : Same u u') : Wk n u' v := (h.symm.same hs).symm
/-- A matrix at a pair. -/
def mact (a b c d : Int) (v : V2) : V2 := ⟨a * v.p + b * v.q, c * v.p + d * v.q⟩
theorem vdet_act (a b c d : Int) (u v : V2) : vdet (mact a b c d u) (mact a b c d v) = (a * d - b * c) * vdet u v := by unfold vdet mact; grind
theorem act_neg (a b c d : Int) (v : V2) : mact a b c d (vneg v) = vneg (mact a b c d v) := by
  unfold mact vneg; simp only [V2.mk.injEq]; exact ⟨by grind, by grind⟩
theorem act_adj {a b c d : Int} (hd : a * d - b * c = 1 ∨ a * d - b * c = -1) {u v : V2} (h : Adj u v) : Adj (mact a b c d u) (mact a b c d v) := by
  unfold Adj at *; rw [vdet_act]
  rcases hd with hd | hd <;> rw [hd] <;> omega
theorem Wk.act {a b c d : Int} (hd : a * d - b * c = 1 ∨ a * d - b * c = -1) : ∀ {n : Nat} {u v : V2}, Wk n u v → Wk n (mact a b c d u) (mact a b c d v)
  | 0, u, v, h => by
    rcases h with rfl | rfl
    · exact .inl rfl
    · exact .inr (act_neg a b c d u)
  | _ + 1, _, _, ⟨x, h, ha⟩ => ⟨_, h.act hd, act_adj hd ha⟩
theorem act_back {a b c d : Int} (hd : a * d - b * c = 1 ∨ a * d - b * c = -1) (v : V2) : Same v (mact d (-b) (-c) a (mact a b c d v)) := by
  have e : mact d (-b) (-c) a (mact a b c d v) = ⟨(a * d - b * c) * v.p, (a * d - b * c) * v.q⟩ := by
    unfold mact; simp only [V2.mk.injEq]; exact ⟨by grind, by grind⟩
  rw [e]
  rcases hd with hd | hd <;> rw [hd]
  · left; cases v; simp
  · right; cases v; simp [vneg]
theorem Wk.unact {a b c d : Int} (hd : a * d - b * c = 1 ∨ a * d - b * c = -1) {n : Nat} {u v : V2} (h : Wk n (mact a b c d u) (mact a b c d v)) : Wk n u v := by
  have h1 := h.act (a := d) (b := -b) (c := -c) (d := a) (by
    have : d * a - -b * -c = a * d - b * c := by grind
    rw [this]; exact hd)
  exact (h1.same (act_back hd v).symm).samel (act_back hd u).symm
/-- The distance of two pairs: the least number of steps. -/
structure IsD (u v : V2) (n : Nat) : Prop where
  wk : Wk n u v
  le : ∀ m, Wk m u v → n ≤ m
theorem IsD.uniq {u v : V2} {n m : Nat} (h : IsD u v n) (h' : IsD u v m) : n = m := Nat.le_antisymm (h.le m h'.wk) (h'.le n h.wk)
theorem IsD.symm {u v : V2} {n : Nat} (h : IsD u v n) : IsD v u n := ⟨h.wk.symm, fun m hm => h.le m hm.symm⟩
theorem IsD.same {u v v' : V2} {n : Nat} (h : IsD u v n) (hs : Same v v') : IsD u v' n := ⟨h.wk.same hs, fun m hm => h.le m (hm.same hs.symm)⟩
theorem IsD.samel {u u' v : V2} {n : Nat} (h : IsD u v n) (hs : Same u u') : IsD u' v n := (h.symm.same hs).symm
theorem IsD.act {a b c d : Int} (hd : a * d - b * c = 1 ∨ a * d - b * c = -1) {u v : V2} {n : Nat} (h : IsD u v n) : IsD (mact a b c d u) (mact a b c d v) n :=
  ⟨h.wk.act hd, fun m hm => h.le m (hm.unact hd)⟩
theorem IsD.unact {a b c d : Int} (hd : a * d - b * c = 1 ∨ a * d - b * c = -1) {u v : V2} {n : Nat} (h : IsD (mact a b c d u) (mact a b c d v) n) : IsD u v n :=
  ⟨h.wk.unact hd, fun m hm => h.le m (hm.act hd)⟩
/-- Between two neighbours. -/
def Inn (L R v : V2) : Prop := 0 < vdet v R * vdet L v
theorem v2_comb {L R v : V2} (h : vdet L R = 1) : v.p = vdet v R * L.p + vdet L v * R.p ∧ v.q = vdet v R * L.q + vdet L v * R.q := by
  have e1 : vdet v R * L.p + vdet L v * R.p = vdet L R * v.p := by unfold vdet; grind
  have e2 : vdet v R * L.q + vdet L v * R.q = vdet L R * v.q := by unfold vdet; grind
  rw [e1, e2, h]; omega
theorem vdet_comb {L R u v : V2} (h : vdet L R = 1) : vdet u v = vdet u R * vdet L v - vdet L u * vdet v R := by
  obtain ⟨u1, u2⟩ := v2_comb (v := u) h
  obtain ⟨v1, v2⟩ := v2_comb (v := v) h
  have e : vdet u v = (vdet u R * vdet L v - vdet L u * vdet v R) * vdet L R := by
    generalize vdet u R = a at *
    generalize vdet L u = b at *
    generalize vdet v R = c at *
    generalize vdet L v = d at *
    unfold vdet
    rw [u1, u2, v1, v2]
    grind
  rw [e, h]; omega
theorem same_of_zero {L R x : V2} (h : vdet L R = 1) (h0 : vdet L x = 0) (h1 : vdet x R = 1 ∨ vdet x R = -1) : Same L x := by
  obtain ⟨e1, e2⟩ := v2_comb (v := x) h
  rw [h0] at e1 e2
  rcases h1 with h1 | h1 <;> rw [h1] at e1 e2
  · left; cases x; cases L; simp at *; exact ⟨e1, e2⟩
  · right; cases x; cases L; simp [vneg] at *; exact ⟨e1, e2⟩
theorem same_of_zero' {L R x : V2} (h : vdet L R = 1) (h0 : vdet x R = 0) (h1 : vdet L x = 1 ∨ vdet L x = -1) : Same R x := by
  obtain ⟨e1, e2⟩ := v2_comb (v := x) h
  rw [h0] at e1 e2
  rcases h1 with h1 | h1 <;> rw [h1] at e1 e2
  · left; cases x; cases R; simp at *; exact ⟨e1, e2⟩
  · right; cases x; cases R; simp [vneg] at *; exact ⟨e1, e2⟩
theorem unit_mul {a b : Int} (h : a * b = 1 ∨ a * b = -1) : a = 1 ∨ a = -1 := by
  have h2 : a.natAbs * b.natAbs = 1 := by rw [← Int.natAbs_mul]; omega
  have := Nat.eq_one_of_mul_eq_one_right h2
  omega
/-- A neighbour of what lies between two neighbours lies there, too, or is one of them. -/
theorem adj_inn {L R x v : V2} (h : vdet L R = 1) (hv : Inn L R v) (ha : Adj x v) : Inn L R x ∨ Same L x ∨ Same R x := by
  unfold Inn at *
  unfold Adj at ha
  rw [vdet_comb h] at ha
  have s1 := @same_of_zero L R x h
  have s2 := @same_of_zero' L R x h
  generalize vdet x R = c at *
  generalize vdet L x = d at *
  generalize vdet v R = a at *
  generalize vdet L v = b at *
  by_cases hc : c = 0
  · subst hc
    right; right
    refine s2 rfl (unit_mul (b := a) ?_)
    simp at ha; omega
  by_cases hd : d = 0
  · subst hd
    right; left
    refine s1 rfl (unit_mul (b := b) ?_)
    simpa using ha
  left
  refine Int.not_le.1 fun hcd => ?_
  have pos : ∀ x y : Int, 0 < x * y ↔ (0 < x ∧ 0 < y ∨ x < 0 ∧ y < 0) := by
    intro x y
    constructor
    · intro h
      rcases Int.lt_trichotomy x 0 with h1 | h1 | h1
      · rcases Int.lt_or_le y 0 with h2 | h2
        · right; exact ⟨h1, h2⟩
        · have := Int.mul_nonpos_of_nonpos_of_nonneg (Int.le_of_lt h1) h2; omega
      · subst h1; simp at h
      · rcases Int.lt_or_le 0 y with h2 | h2
        · left; exact ⟨h1, h2⟩
        · have := Int.mul_nonpos_of_nonneg_of_nonpos (Int.le_of_lt h1) h2; omega
    · rintro (⟨h1, h2⟩ | ⟨h1, h2⟩)
      · exact Int.mul_pos h1 h2
      · exact Int.mul_pos_of_neg_of_neg h1 h2
  have hab := (pos a b).1 hv
  have hcd' : ¬ (0 < c ∧ 0 < d ∨ c < 0 ∧ d < 0) := fun h => by have := (pos c d).2 h; omega
  have h1 : (0 < c * b ∧ d * a < 0) ∨ (c * b < 0 ∧ 0 < d * a) := by
    rcases Int.lt_or_gt_of_ne hc with hc | hc <;> rcases Int.lt_or_gt_of_ne hd with hd | hd <;> rcases hab with ⟨ha, hb⟩ | ⟨ha, hb⟩
    · omega
    · omega
    · right; exact ⟨Int.mul_neg_of_neg_of_pos hc hb, Int.mul_pos hd ha⟩
    · left; exact ⟨Int.mul_pos_of_neg_of_neg hc hb, Int.mul_neg_of_pos_of_neg hd ha⟩
    · left; exact ⟨Int.mul_pos hc hb, Int.mul_neg_of_neg_of_pos hd ha⟩
    · right; exact ⟨Int.mul_neg_of_pos_of_neg hc hb, Int.mul_pos_of_neg_of_neg hd ha⟩
    · omega
    · omega
  omega
theorem Inn.neg {L R v : V2} (h : Inn L R v) : Inn L R (vneg v) := by
  unfold Inn at *; rw [vdet_negl, vdet_negr, Int.neg_mul_neg]; exact h
/-- A way into what lies between two neighbours leads by one of them. -/
theorem way_split {L R u : V2} (h : vdet L R = 1) (hu : ¬ Inn L R u) : ∀ {n : Nat} {v : V2}, Inn L R v → Wk n u v → ∃ m k, m + k = n ∧ (Wk m u L ∧ Wk k L v ∨ Wk m u R ∧ Wk k R v)
  | 0, v, hv, hw => by
    rcases hw with rfl | rfl
    · exact absurd hv hu
    · have := hv.neg; rw [vneg_neg] at this; exact absurd this hu
  | n + 1, v, hv, ⟨x, hw, ha⟩ => by
    rcases adj_inn h hv ha with h1 | h1 | h1
    · obtain ⟨m, k, e, h2 | h2⟩ := way_split h hu h1 hw
      · exact ⟨m, k + 1, by omega, .inl ⟨h2.1, x, h2.2, ha⟩⟩
      · exact ⟨m, k + 1, by omega, .inr ⟨h2.1, x, h2.2, ha⟩⟩
    · exact ⟨n, 1, rfl, .inl ⟨hw.same h1.symm, x, h1, ha⟩⟩
    · exact ⟨n, 1, rfl, .inr ⟨hw.same h1.symm, x, h1, ha⟩⟩
def vadd (u v : V2) : V2 := ⟨u.p + v.p, u.q + v.q⟩
theorem wk0_det {u v : V2} (h : Wk 0 u v) : vdet u v = 0 := by
  rcases h with rfl | rfl
  · exact vdet_self _
  · rw [vdet_negr, vdet_self]; rfl
/-- The distance of a mediant. -/
theorem IsD.mediant {L R u : V2} {a b : Nat} (h : vdet L R = 1) (hu : ¬ Inn L R u) (ha : IsD u L a) (hb : IsD u R b) : IsD u (vadd L R) (1 + min a b) := by
  have e1 : vdet (vadd L R) R = 1 := by rw [← h]; unfold vdet vadd; grind
  have e2 : vdet L (vadd L R) = 1 := by rw [← h]; unfold vdet vadd; grind
  have hi : Inn L R (vadd L R) := by unfold Inn; rw [e1, e2]; omega
  constructor
  · by_cases hab : a ≤ b
    · rw [Nat.min_eq_left hab, Nat.add_comm]; exact ⟨L, ha.wk, .inl e2⟩
    · rw [Nat.min_eq_right (by omega), Nat.add_comm]; exact ⟨R, hb.wk, Adj.symm (.inl e1)⟩
  · intro m hm
    obtain ⟨i, k, e, ⟨h1, h2⟩ | ⟨h1, h2⟩⟩ := way_split h hu hi hm
    · have := ha.le i h1
      have hk : k ≠ 0 := by rintro rfl; have := wk0_det h2; omega
      omega
    · have := hb.le i h1
      have hk : k ≠ 0 := by
        rintro rfl; have := wk0_det h2; rw [vdet_swap, e1] at this; omega
      omega
def vInf : V2 := ⟨1, 0⟩
theorem IsD.inf0 : IsD vInf vInf 0 := ⟨.inl rfl, fun m _ => Nat.zero_le m⟩
theorem IsD.inf1 (n : Int) : IsD vInf ⟨n, 1⟩ 1 := by
  refine ⟨Wk.one (.inl (by simp [vdet, vInf])), fun m hm => ?_⟩
  cases m with
  | zero => have := wk0_det hm; simp [vdet, vInf] at this
  | succ m => omega
/-- Moving by whole numbers, and mirroring, keep the distance to infinity. -/
theorem IsD.move {p q : Int} {n : Nat} (k : Int) (h : IsD vInf ⟨p, q⟩ n) : IsD vInf ⟨p + k * q, q⟩ n := by
  have h1 := h.act (a := 1) (b := k) (c := 0) (d := 1) (by simp)
  have e1 : mact 1 k 0 1 vInf = vInf := by simp [mact, vInf]
  have e2 : mact 1 k 0 1 ⟨p, q⟩ = ⟨p + k * q, q⟩ := by simp [mact]
  rwa [e1, e2] at h1
theorem IsD.mirror {p q : Int} {n : Nat} (h : IsD vInf ⟨p, q⟩ n) : IsD vInf ⟨-p, q⟩ n := by
  have h1 := h.act (a := -1) (b := 0) (c := 0) (d := 1) (by simp)
  have e2 : mact (-1) 0 0 1 ⟨p, q⟩ = ⟨-p, q⟩ := by simp [mact]
  rw [e2] at h1
  exact h1.samel (.inr (by simp [mact, vInf, vneg]))
theorem IsD.mirror' {p q : Int} {n : Nat} (h : IsD vInf ⟨p, q⟩ n) : IsD vInf ⟨p, -q⟩ n :=
  h.mirror.same (.inr (by simp [vneg]))
theorem gcd_zero_one {q : Int} (h : Int.gcd 0 q = 1) (hq : 0 < q) : q = 1 := by
  rw [Int.gcd_zero_left] at h; omega
/-- Of a small fraction: 0 lies on a shortest way. -/
theorem near_zero {r q : Int} {n : Nat} (hc : Int.gcd r q = 1) (hr : 0 ≤ r) (hq : 0 < q) (h2 : 2 * r ≤ q) (h : IsD ⟨0, 1⟩ ⟨r, q⟩ n) : IsD vInf ⟨r, q⟩ (n + 1) := by
  have hz : Wk 1 vInf ⟨0, 1⟩ := Wk.one (.inl (by simp [vdet, vInf]))
  have hnz : ∀ {v : V2}, v.q ≠ 0 → ∀ m, Wk m vInf v → 1 ≤ m := by
    intro v hv m hm
    cases m with
    | zero => have := wk0_det hm; simp [vdet, vInf] at this; exact absurd this hv
    | succ m => omega
  refine ⟨by rw [Nat.add_comm]; exact hz.trans h.wk, fun m hm => ?_⟩
  by_cases h0 : r = 0
  · subst h0
    obtain rfl := gcd_zero_one hc hq
    have := h.le 0 (.inl rfl)
    have := hnz (v := ⟨0, 1⟩) (by simp) m hm
    omega
  have h12 : ∀ m, Wk m vInf ⟨1, 2⟩ → 2 ≤ m := by
    intro m hm
    match m, hm with
    | 0, hm => have := wk0_det hm; simp [vdet, vInf] at this
    | 1, ⟨x, hx, ha⟩ =>
      rcases hx with rfl | rfl
      · rcases ha with ha | ha <;> simp [vdet, vInf] at ha
      · rcases ha with ha | ha <;> simp [vdet, vInf, vneg] at ha
    | m + 2, _ => omega
  have hZ12 : Wk 1 ⟨0, 1⟩ ⟨1, 2⟩ := Wk.one (.inr (by simp [vdet]))
  by_cases h1 : 2 * r = q
  · subst h1
    have hr1 : r = 1 := by
      have : Int.gcd r (2 * r) = r.natAbs := by rw [Int.gcd, Int.natAbs_mul]; exact Nat.gcd_mul_left_right _ _
      omega
    subst hr1
    have := h.le 1 hZ12
    have := h12 m hm
    omega
  have hd : vdet ⟨1, 2⟩ ⟨0, 1⟩ = 1 := by simp [vdet]
  have hi : Inn ⟨1, 2⟩ ⟨0, 1⟩ ⟨r, q⟩ := by
    unfold Inn vdet; simp
    exact Int.mul_pos (by omega) (by omega)
  have hu : ¬ Inn ⟨1, 2⟩ ⟨0, 1⟩ vInf := by unfold Inn vdet vInf; simp
  obtain ⟨i, k, e, ⟨w1, w2⟩ | ⟨w1, w2⟩⟩ := way_split hd hu hi hm
  · have := h12 i w1
    have := h.le (1 + k) (hZ12.trans w2)
    omega
  · have := hnz (v := ⟨0, 1⟩) (by simp) i w1
    have := h.le k w2
    omega
theorem near_step {r q : Int} {n : Nat} (hc : Int.gcd r q = 1) (hq : q ≠ 0) (h2 : 2 * (r.natAbs : Int) ≤ (q.natAbs : Int)) (h : IsD vInf ⟨q, r.natAbs⟩ n) : IsD vInf ⟨r, q⟩ (n + 1) := by
  have h1 : IsD vInf ⟨(q.natAbs : Int), r.natAbs⟩ n := by
    rcases (show (q.natAbs : Int) = q ∨ (q.natAbs : Int) = -q by omega) with e | e <;> rw [e]
    · exact h
    · exact h.mirror
  have h3 : IsD ⟨0, 1⟩ ⟨(r.natAbs : Int), q.natAbs⟩ n := by
    have := h1.act (a := 0) (b := 1) (c := 1) (d := 0) (by simp)
    have e1 : mact 0 1 1 0 vInf = ⟨0, 1⟩ := by simp [mact, vInf]
    have e2 : mact 0 1 1 0 ⟨(q.natAbs : Int), r.natAbs⟩ = ⟨(r.natAbs : Int), q.natAbs⟩ := by simp [mact]
    rwa [e1, e2] at this
  have h4 := near_zero (r := r.natAbs) (q := q.natAbs) (by simpa [Int.gcd] using hc) (by omega) (by omega) h2 h3
  have h5 : IsD vInf ⟨r, (q.natAbs : Int)⟩ (n + 1) := by
    rcases (show (r.natAbs : Int) = r ∨ (r.natAbs : Int) = -r by omega) with e | e <;> rw [e] at h4
    · exact h4
    · have := h4.mirror; rwa [Int.neg_neg] at this
  rcases (show (q.natAbs : Int) = q ∨ (q.natAbs : Int) = -q by omega) with e | e <;> rw [e] at h5
  · exact h5
  · have := h5.mirror'; rwa [Int.neg_neg] at this
/-- A step of the shortest way to infinity: by the nearest whole number. -/
theorem far_step {p q k : Int} {n : Nat} (hc : Int.gcd p q = 1) (hq : q ≠ 0) (h2 : 2 * ((p - k * q).natAbs : Int) ≤ (q.natAbs : Int)) (h : IsD vInf ⟨q, (p - k * q).natAbs⟩ n) : IsD vInf ⟨p, q⟩ (n + 1) := by
  have hc2 : Int.gcd (p - k * q) q = 1 := by rw [← hc, Int.gcd_sub_mul_right_left]
  have := (near_step hc2 hq h2 h).move k
  rwa [show p - k * q + k * q = p by omega] at this
theorem far_end {p : Int} (hc : Int.gcd p 0 = 1) : IsD vInf ⟨p, 0⟩ 0 := by
  rw [Int.gcd_zero_right] at hc
  refine IsD.inf0.same ?_
  rcases (show p = 1 ∨ p = -1 by omega) with rfl | rfl
  · left; rfl
  · right; rfl
end Go.Proofs.Ytjnkogkpdbgohaa
/- Plain facts: the form of a matrix. -/
namespace Go.Proofs.Ytjnkogkpdbgohaa
theorem tdiv_bd {a b K : Int} (h1 : -K ≤ a) (h2 : a ≤ K) : -K ≤ a.tdiv b ∧ a.tdiv b ≤ K := by
  have h3 : (a.tdiv b).natAbs = a.natAbs / b.natAbs := by rw [Int.natAbs_tdiv]; rfl
  have h4 : a.natAbs / b.natAbs ≤ a.natAbs := Nat.div_le_self _ _
  omega
def formGcd (a b c d : Int) : Int := (Int.gcd (Int.gcd c (d - a)) (-b) : Int)
/-- What FormOfMatrix says of a matrix that is one. -/
def formOfM (a b c d : Int) : F3 × Int :=
  if kindOf a b c d = 0 then (⟨0, 0, 0⟩, 5) else
  if smallB (c.tdiv (formGcd a b c d)) ((d - a).tdiv (formGcd a b c d)) (-(b.tdiv (formGcd a b c d))) = true then (⟨c.tdiv (formGcd a b c d), (d - a).tdiv (formGcd a b c d), -(b.tdiv (formGcd a b c d))⟩, 0) else (⟨0, 0, 0⟩, 3)
theorem kind_ne {a b c d : Int} (h : kindOf a b c d ≠ 0) : ¬ (b = 0 ∧ c = 0) := fun hh => h (by unfold kindOf; rw [if_pos hh])
theorem kind_0 {a b c d : Int} (h : kindOf a b c d = 0) : b = 0 ∧ c = 0 := by
  unfold kindOf at h
  split at h
  · assumption
  · split at h
    · omega
    · split at h <;> omega
theorem formGcd_dvd (a b c d : Int) : formGcd a b c d ∣ c ∧ formGcd a b c d ∣ d - a ∧ formGcd a b c d ∣ -b := by
  unfold formGcd
  refine ⟨Int.dvd_trans (Int.gcd_dvd_left _ _) (Int.gcd_dvd_left _ _), Int.dvd_trans (Int.gcd_dvd_left _ _) (Int.gcd_dvd_right _ _), Int.gcd_dvd_right _ _⟩
theorem formGcd_pos {a b c d : Int} (h : ¬ (b = 0 ∧ c = 0)) : 1 ≤ formGcd a b c d := by
  have h0 : 0 ≤ formGcd a b c d := by unfold formGcd; omega
  have h1 : formGcd a b c d ≠ 0 := by
    intro e
    obtain ⟨d1, _, d3⟩ := formGcd_dvd a b c d
    rw [e] at d1 d3
    have := Int.zero_dvd.1 d1
    have := Int.zero_dvd.1 d3
    exact h ⟨by omega, by omega⟩
  omega
theorem formGcd_le {a b c d : Int} (h : IsMat a b c d) (hn : ¬ (b = 0 ∧ c = 0)) : formGcd a b c d ≤ 1000000000 := by
  obtain ⟨d1, _, d3⟩ := formGcd_dvd a b c d
  obtain ⟨_, _, b0, b1, c0, c1, _⟩ := h
  by_cases hb : b = 0
  · have hc : c ≠ 0 := fun e => hn ⟨hb, e⟩
    rcases Int.lt_or_gt_of_ne hc with h1 | h1
    · have := Int.le_of_dvd (show 0 < -c by omega) (Int.dvd_neg.2 d1); omega
    · have := Int.le_of_dvd h1 d1; omega
  · rcases Int.lt_or_gt_of_ne hb with h1 | h1
    · have := Int.le_of_dvd (show 0 < -b by omega) d3; omega
    · have := Int.le_of_dvd h1 (Int.dvd_neg.1 d3); omega
theorem formOf_ne {a b c d : Int} (h : ¬ (b = 0 ∧ c = 0)) : ¬ (c.tdiv (formGcd a b c d) = 0 ∧ (d - a).tdiv (formGcd a b c d) = 0 ∧ -(b.tdiv (formGcd a b c d)) = 0) := by
  rintro ⟨h1, _, h3⟩
  rw [← Int.neg_tdiv] at h3
  obtain ⟨d1, _, d3⟩ := formGcd_dvd a b c d
  have e1 := Int.mul_tdiv_cancel' d1
  have e3 := Int.mul_tdiv_cancel' d3
  rw [h1] at e1
  rw [h3] at e3
  exact h ⟨by omega, by omega⟩
end Go.Proofs.Ytjnkogkpdbgohaa
namespace Go.Proofs.Ytjnkogkpdbgohaa
def formOfMat (a b c d : Int) : F3 × Int := if isMat a b c d = true then formOfM a b c d else (⟨0, 0, 0⟩, 1)
end Go.Proofs.Ytjnkogkpdbgohaa
/- Plain: prime divisors by trial division. -/
namespace Go.Proofs.Ytjnkogkpdbgohaa
/-- m is n with all factors p taken out. -/
inductive Strip (p : Nat) : Nat → Nat → Prop
  | stop {n : Nat} : n % p ≠ 0 → Strip p n n
  | go {n m : Nat} : n % p = 0 → Strip p (n / p) m → Strip p n m
theorem Strip.not {p n m : Nat} (h : Strip p n m) : m % p ≠ 0 := by
  induction h with
  | stop h => exact h
  | go _ _ ih => exact ih
theorem Strip.dvd {p n m : Nat} (h : Strip p n m) : m ∣ n := by
  induction h with
  | stop h => exact Nat.dvd_refl _
  | go h _ ih => exact Nat.dvd_trans ih (Nat.div_dvd_of_dvd (Nat.dvd_of_mod_eq_zero h))
theorem Strip.pos {p n m : Nat} (h : Strip p n m) (hn : 0 < n) : 0 < m ∧ m ≤ n := by
  have hd := h.dvd
  exact ⟨Nat.pos_of_dvd_of_pos hd hn, Nat.le_of_dvd hn hd⟩
theorem Strip.uniq {p n m m' : Nat} (h : Strip p n m) (h' : Strip p n m') : m = m' := by
  induction h with
  | stop h => cases h' with
    | stop _ => rfl
    | go h1 _ => exact absurd h1 h
  | go h _ ih => cases h' with
    | stop h1 => exact absurd h h1
    | go _ h2 => exact ih h2
def stripF (p : Nat) : Nat → Nat → Nat
  | 0, n => n
  | f + 1, n => if n % p = 0 then stripF p f (n / p) else n
theorem stripF_ok {p : Nat} (hp : 2 ≤ p) : ∀ f n, 0 < n → n ≤ f → Strip p n (stripF p f n)
  | 0, n, h0, h1 => by omega
  | f + 1, n, h0, h1 => by
    unfold stripF
    split
    · rename_i h
      have hq : n / p * p = n := Nat.div_mul_cancel (Nat.dvd_of_mod_eq_zero h)
      have hlt : n / p < n := Nat.div_lt_self h0 (by omega)
      exact .go h (stripF_ok hp f _ (Nat.pos_of_ne_zero fun e => by rw [e] at hq; omega) (by omega))
    · rename_i h; exact .stop h
/-- The list of the prime divisors of n, if none is less than p. -/
inductive PF : Nat → Nat → List Nat → Prop
  | done {n p : Nat} : n ≤ 1 → PF n p []
  | skip {n p : Nat} {l : List Nat} : 1 < n → n % p ≠ 0 → PF n (p + 1) l → PF n p l
  | take {n p m : Nat} {l : List Nat} : 1 < n → n % p = 0 → Strip p n m → PF m (p + 1) l → PF n p (p :: l)
def NoDiv (n p : Nat) : Prop := ∀ d, 2 ≤ d → d < p → n % d ≠ 0
theorem NoDiv.le {n p : Nat} (h : NoDiv n p) (hn : 1 < n) : p ≤ n := by
  refine Nat.le_of_not_lt fun hlt => h n (by omega) hlt (Nat.mod_self n)
theorem NoDiv.skip {n p : Nat} (h : NoDiv n p) (hp : n % p ≠ 0) : NoDiv n (p + 1) := fun d h2 hd => by
  rcases Nat.lt_or_ge d p with h1 | h1
  · exact h d h2 h1
  · obtain rfl : d = p := by omega
    exact hp
theorem NoDiv.strip {n p m : Nat} (h : NoDiv n p) (hs : Strip p n m) : NoDiv m (p + 1) := fun d h2 hd => by
  rcases Nat.lt_or_ge d p with h1 | h1
  · intro e
    exact h d h2 h1 (Nat.mod_eq_zero_of_dvd (Nat.dvd_trans (Nat.dvd_of_mod_eq_zero e) hs.dvd))
  · obtain rfl : d = p := by omega
    exact hs.not
theorem NoDiv.two (n : Nat) : NoDiv n 2 := fun d h2 hd => by omega
/-- Without a divisor up to its root a number has none. -/
theorem NoDiv.prime {n p : Nat} (h : NoDiv n p) (h2 : n < p * p) : ∀ d, 2 ≤ d → d < n → n % d ≠ 0 := fun d hd hl e => by
  obtain ⟨q, hq⟩ := Nat.dvd_of_mod_eq_zero e
  rcases Nat.lt_or_ge d p with h1 | h1
  · exact h d hd h1 e
  · have h3 : q < p := by
      refine Nat.lt_of_not_le fun hle => ?_
      have := Nat.mul_le_mul h1 hle
      omega
    have h4 : 2 ≤ q := by
      refine Nat.le_of_not_lt fun hlt => ?_
      have : q = 0 ∨ q = 1 := by omega
      rcases this with h5 | h5 <;> rw [h5] at hq <;> omega
    exact h q h4 h3 (Nat.mod_eq_zero_of_dvd ⟨d, by rw [hq, Nat.mul_comm]⟩)
theorem PF.jump {n : Nat} (hn : 1 < n) : ∀ (k p : Nat) (l : List Nat), p + k = n → (∀ d, p ≤ d → d < n → n % d ≠ 0) → PF n p l → PF n n l
  | 0, p, l, h, _, hp => by obtain rfl : p = n := by omega
                            exact hp
  | k + 1, p, l, h, hd, hp => by
    have hne := hd p (Nat.le_refl _) (by omega)
    cases hp with
    | done h1 => omega
    | skip _ _ h3 => exact PF.jump hn k (p + 1) l (by omega) (fun d h1 h2 => hd d (by omega) h2) h3
    | take _ h2 => exact absurd h2 hne
theorem PF.jumped {n p : Nat} {l : List Nat} (hn : 1 < n) (hp2 : 2 ≤ p) (h : NoDiv n p) (h2 : n < p * p) (hp : PF n p l) : PF n n l :=
  PF.jump hn (n - p) p l (by have := h.le hn; omega) (fun d h1 h3 => h.prime h2 d (by omega) h3) hp
theorem PF.back {n : Nat} (hn : 1 < n) : ∀ (k p : Nat) (l : List Nat), p + k = n → (∀ d, p ≤ d → d < n → n % d ≠ 0) → PF n n l → PF n p l
  | 0, p, l, h, _, hp => by obtain rfl : p = n := by omega
                            exact hp
  | k + 1, p, l, h, hd, hp => .skip hn (hd p (Nat.le_refl _) (by omega)) (PF.back hn k (p + 1) l (by omega) (fun d h1 h2 => hd d (by omega) h2) hp)
theorem strip_self {n : Nat} (hn : 1 < n) : Strip n n 1 := by
  refine .go (Nat.mod_self n) ?_
  rw [Nat.div_self (by omega)]
  exact .stop (by rw [Nat.mod_eq_of_lt hn]; omega)
theorem PF.self {n : Nat} (hn : 1 < n) : PF n n [n] := .take hn (Nat.mod_self n) (strip_self hn) (.done (Nat.le_refl _))
theorem PF.uniq {n p : Nat} {l l' : List Nat} (h : PF n p l) (h' : PF n p l') : l = l' := by
  induction h generalizing l' with
  | done h => cases h' with
    | done _ => rfl
    | skip h1 => omega
    | take h1 => omega
  | skip h1 h2 _ ih => cases h' with
    | done h => omega
    | skip _ _ h3 => exact ih h3
    | take _ h4 => exact absurd h4 h2
  | take h1 h2 h3 _ ih => cases h' with
    | done h => omega
    | skip _ h4 => exact absurd h2 h4
    | take _ _ h5 h6 =>
      obtain rfl := h3.uniq h5
      rw [ih h6]
def pfI : Nat → Nat → Nat → List Nat
  | 0, n, _ => if n ≤ 1 then [] else [n]
  | f + 1, n, p => if n ≤ 1 then [] else if n < p * p then [n] else if n % p = 0 then p :: pfI f (stripF p n n) (p + 1) else pfI f n (p + 1)
theorem pfI_ok : ∀ (f n p : Nat), 0 < n → 2 ≤ p → NoDiv n p → n < (p + f) * (p + f) → PF n p (pfI f n p)
  | 0, n, p, h0, h2, hd, hl => by
    unfold pfI
    split
    · rename_i h; exact .done h
    · rename_i h
      have hn : 1 < n := by omega
      exact PF.back hn (n - p) p _ (by have := hd.le hn; omega) (fun d h1 h3 => hd.prime (by simpa using hl) d (by omega) h3) (PF.self hn)
  | f + 1, n, p, h0, h2, hd, hl => by
    unfold pfI
    split
    · rename_i h; exact .done h
    · rename_i h
      have hn : 1 < n := by omega
      split
      · rename_i hpp
        exact PF.back hn (n - p) p _ (by have := hd.le hn; omega) (fun d h1 h3 => hd.prime hpp d (by omega) h3) (PF.self hn)
      · have he : p + (f + 1) = p + 1 + f := by omega
        rw [he] at hl
        split
        · rename_i hm
          have hs := stripF_ok h2 n n h0 (Nat.le_refl _)
          exact .take hn hm hs (pfI_ok f _ _ (hs.pos h0).1 (by omega) (hd.strip hs) (Nat.lt_of_le_of_lt (hs.pos h0).2 hl))
        · rename_i hm
          exact .skip hn hm (pfI_ok f _ _ h0 (by omega) (hd.skip hm) hl)
/-- The prime divisors of a number up to 1000. -/
def primesL (n : Nat) : List Nat := pfI 32 n 2
theorem primesL_ok {n : Nat} (h0 : 0 < n) (h1 : n ≤ 1000) : PF n 2 (primesL n) := pfI_ok 32 n 2 h0 (Nat.le_refl _) (NoDiv.two n) (by omega)
/-! ### What is counted with them -/
def fTimes (g : Nat → Nat → Nat) : Nat → List Nat → Nat
  | out, [] => out
  | out, p :: l => fTimes g (g out p) l
def gIdx (out p : Nat) : Nat := out / p * (p + 1)
def gMod (out p : Nat) : Nat := out / (p * p) * (p * p - 1)
def gPhi (out p : Nat) : Nat := out / p * (p - 1)
/-- All numbers on the way are small. -/
def chk (g : Nat → Nat → Nat) (B : Nat) : Nat → List Nat → Bool
  | out, [] => decide (out ≤ B)
  | out, p :: l => decide (out ≤ B) && (decide (1 ≤ p) && (decide (p ≤ 1000) && chk g B (g out p) l))
theorem chk_le {g : Nat → Nat → Nat} {B out : Nat} {l : List Nat} (h : chk g B out l = true) : out ≤ B := by
  cases l <;> simp [chk] at h <;> omega
structure ChkStep (g : Nat → Nat → Nat) (B out p : Nat) (l : List Nat) : Prop where
  o : out ≤ B
  p1 : 1 ≤ p
  p2 : p ≤ 1000
  next : chk g B (g out p) l = true
  n : g out p ≤ B
theorem chk_step {g : Nat → Nat → Nat} {B out p : Nat} {l : List Nat} (h : chk g B out (p :: l) = true) : ChkStep g B out p l := by
  simp only [chk, Bool.and_eq_true, decide_eq_true_eq] at h
  exact ⟨h.1, h.2.1, h.2.2.1, h.2.2.2, chk_le h.2.2.2⟩
def idxOk (n : Nat) : Bool := chk gIdx 1000000 n (primesL n) && (chk gMod 1000000000 (n * n * n) (primesL n) && (chk gMod 1000000000 (n * n) (primesL n) && decide (fTimes gMod (n * n * n) (primesL n) / n = fTimes gMod (n * n) (primesL n))))
set_option maxRecDepth 100000 in
theorem idxOk_all : (List.range 1000).all (fun n => idxOk (n + 1)) = true := by decide +kernel
theorem idxOk_of {n : Nat} (h0 : 0 < n) (h1 : n ≤ 1000) : idxOk n = true := by
  have := List.all_eq_true.1 idxOk_all (n - 1) (by simp; omega)
  rwa [show n - 1 + 1 = n by omega] at this
/-- How many up to n have no common divisor with m. -/
def phiC (m : Nat) : Nat → Nat
  | 0 => 0
  | k + 1 => phiC m k + if Nat.gcd (k + 1) m = 1 then 1 else 0
def phiOk (m : Nat) : Bool := chk gPhi 1000 m (primesL m) && decide (fTimes gPhi m (primesL m) = phiC m m)
set_option maxRecDepth 100000 in
theorem phiOk_all : (List.range 40).all (fun n => phiOk (n + 1)) = true := by decide +kernel
theorem phiOk_of {n : Nat} (h0 : 0 < n) (h1 : n ≤ 40) : phiOk n = true := by
  have := List.all_eq_true.1 phiOk_all (n - 1) (by simp; omega)
  rwa [show n - 1 + 1 = n by omega] at this
end Go.Proofs.Ytjnkogkpdbgohaa
/- Plain: normal pairs, the line of a level. -/
namespace Go.Proofs.Ytjnkogkpdbgohaa
def lexB (a b x y : Int) : Bool := decide (a < x) || (decide (a = x) && decide (b < y))
def isPairB (n c d : Int) : Bool := (Int.gcd (Int.gcd c d : Int) n : Int) == 1
structure P2 where
  x : Int
  y : Int
  deriving DecidableEq
/-- The least of the multiples by units up to k. -/
def nrm (n c d : Int) : Nat → P2
  | 0 => ⟨c, d⟩
  | k + 1 => if ((Int.gcd ((k : Int) + 1) n : Int) == 1 && lexB ((k + 1) * c % n) ((k + 1) * d % n) (nrm n c d k).x (nrm n c d k).y) = true then ⟨(k + 1) * c % n, (k + 1) * d % n⟩ else nrm n c d k
theorem nrm_skip {n c d : Int} {k : Nat} (h : (Int.gcd ((k : Int) + 1) n : Int) ≠ 1) : nrm n c d (k + 1) = nrm n c d k := by simp [nrm, h]
theorem nrm_yes {n c d : Int} {k : Nat} (h : (Int.gcd ((k : Int) + 1) n : Int) = 1) (h2 : lexB ((k + 1) * c % n) ((k + 1) * d % n) (nrm n c d k).x (nrm n c d k).y = true) : nrm n c d (k + 1) = ⟨(k + 1) * c % n, (k + 1) * d % n⟩ := by simp [nrm, h, h2]
theorem nrm_no {n c d : Int} {k : Nat} (h2 : lexB ((k + 1) * c % n) ((k + 1) * d % n) (nrm n c d k).x (nrm n c d k).y = false) : nrm n c d (k + 1) = nrm n c d k := by simp [nrm, h2]
def normal (n c d : Int) : P2 := nrm n c d (n - 1).toNat
theorem nrm_bd {n c d : Int} (hn : 0 < n) (hc : 0 ≤ c ∧ c < n) (hd : 0 ≤ d ∧ d < n) (k : Nat) : (0 ≤ (nrm n c d k).x ∧ (nrm n c d k).x < n) ∧ (0 ≤ (nrm n c d k).y ∧ (nrm n c d k).y < n) := by
  induction k with
  | zero => exact ⟨hc, hd⟩
  | succ k ih =>
    unfold nrm
    split
    · exact ⟨⟨Int.emod_nonneg _ (by omega), Int.emod_lt_of_pos _ hn⟩, Int.emod_nonneg _ (by omega), Int.emod_lt_of_pos _ hn⟩
    · exact ih
theorem normal_bd {n c d : Int} (hn : 0 < n) (hc : 0 ≤ c ∧ c < n) (hd : 0 ≤ d ∧ d < n) : (0 ≤ (normal n c d).x ∧ (normal n c d).x < n) ∧ (0 ≤ (normal n c d).y ∧ (normal n c d).y < n) := nrm_bd hn hc hd _
def selfB (n c d : Int) : Bool := isPairB n c d && decide (normal n c d = ⟨c, d⟩)
/-- The normal pairs with the first number c, and a second one below m. -/
def lineRow (n c : Int) : Nat → List P2
  | 0 => []
  | d + 1 => lineRow n c d ++ (if selfB n c d = true then [⟨c, d⟩] else [])
def lineTo (n : Int) (N : Nat) : Nat → List P2
  | 0 => []
  | c + 1 => lineTo n N c ++ lineRow n c N
def lineL (n : Int) : List P2 := lineTo n n.toNat n.toNat
theorem lineRow_len (n c : Int) (m : Nat) : (lineRow n c m).length ≤ m := by
  induction m with
  | zero => simp [lineRow]
  | succ m ih => unfold lineRow; split <;> simp <;> omega
theorem lineTo_len (n : Int) (N m : Nat) : (lineTo n N m).length ≤ m * N := by
  induction m with
  | zero => simp [lineTo]
  | succ m ih =>
    unfold lineTo
    rw [List.length_append, Nat.succ_mul]
    have := lineRow_len n m N
    omega
theorem lineL_len {n : Int} (h1 : n ≤ 60) : (lineL n).length ≤ 3600 := by
  have h := lineTo_len n n.toNat n.toNat
  have h2 : n.toNat * n.toNat ≤ 60 * 60 := Nat.mul_le_mul (by omega) (by omega)
  unfold lineL; omega
structure InLine (n : Int) (p : P2) : Prop where
  c0 : 0 ≤ p.x
  c1 : p.x < n
  d0 : 0 ≤ p.y
  d1 : p.y < n
  pair : isPairB n p.x p.y = true
  self : normal n p.x p.y = p
theorem lineRow_mem {n c : Int} {m : Nat} {p : P2} : p ∈ lineRow n c m ↔ p.x = c ∧ 0 ≤ p.y ∧ p.y < m ∧ selfB n p.x p.y = true := by
  induction m with
  | zero => simp [lineRow]; omega
  | succ m ih =>
    unfold lineRow
    rw [List.mem_append, ih]
    constructor
    · rintro (⟨h1, h2, h3, h4⟩ | h)
      · exact ⟨h1, h2, by omega, h4⟩
      · split at h
        · simp at h; subst h; exact ⟨rfl, by simp, by simp; omega, by assumption⟩
        · simp at h
    · rintro ⟨h1, h2, h3, h4⟩
      by_cases h : p.y = m
      · right
        obtain ⟨x, y⟩ := p
        simp only at h1 h h4
        subst h1; subst h
        rw [if_pos h4]; simp
      · exact .inl ⟨h1, h2, by omega, h4⟩
theorem lineTo_mem {n : Int} {N m : Nat} {p : P2} : p ∈ lineTo n N m ↔ 0 ≤ p.x ∧ p.x < m ∧ 0 ≤ p.y ∧ p.y < N ∧ selfB n p.x p.y = true := by
  induction m with
  | zero => simp [lineTo]; omega
  | succ m ih =>
    unfold lineTo
    rw [List.mem_append, ih, lineRow_mem]
    constructor
    · rintro (⟨h1, h2, h3⟩ | ⟨h1, h2, h3⟩)
      · exact ⟨h1, by omega, h3⟩
      · exact ⟨by omega, by omega, h2, h3⟩
    · rintro ⟨h1, h2, h3⟩
      by_cases h : p.x = m
      · exact .inr ⟨h, h3⟩
      · exact .inl ⟨h1, by omega, h3⟩
theorem lineL_mem {n : Int} (hn : 0 < n) {p : P2} : p ∈ lineL n ↔ InLine n p := by
  unfold lineL
  rw [lineTo_mem]
  have e : ((n.toNat : Nat) : Int) = n := by omega
  rw [e]
  constructor
  · rintro ⟨h1, h2, h3, h4, h5⟩
    simp only [selfB, Bool.and_eq_true, decide_eq_true_eq] at h5
    exact ⟨h1, h2, h3, h4, h5.1, h5.2⟩
  · rintro ⟨h1, h2, h3, h4, h5, h6⟩
    exact ⟨h1, h2, h3, h4, by simp [selfB, h5, h6]⟩
/-- The place of the first p from k on, or -1. -/
def findI (p : P2) : List P2 → Int → Int
  | [], _ => -1
  | q :: l, k => if q = p then k else findI p l (k + 1)
theorem findI_hit {p : P2} {l : List P2} {k : Nat} (hk : k < l.length) (h : l[k] = p) (hb : ∀ j (hj : j < k), l[j]'(by omega) ≠ p) (s : Int) : findI p l s = s + k := by
  induction l generalizing k s with
  | nil => simp at hk
  | cons q l ih =>
    unfold findI
    cases k with
    | zero => simp at h; rw [if_pos h]; simp
    | succ k =>
      have h0 := hb 0 (by omega)
      simp at h0 h
      rw [if_neg h0, ih (k := k) (by simpa using hk) h (fun j hj => by have := hb (j + 1) (by omega); simpa using this)]
      push_cast; omega
theorem findI_none {p : P2} {l : List P2} (h : p ∉ l) (s : Int) : findI p l s = -1 := by
  induction l generalizing s with
  | nil => rfl
  | cons q l ih =>
    simp at h
    unfold findI
    rw [if_neg (fun e => h.1 e.symm), ih h.2]
theorem findI_bd (p : P2) (l : List P2) (s : Int) (h : p ∈ l) : s ≤ findI p l s ∧ findI p l s < s + l.length := by
  induction l generalizing s with
  | nil => simp at h
  | cons q l ih =>
    unfold findI
    split
    · simp; omega
    · rename_i hne
      have := ih (s + 1) (by simp at h; rcases h with h | h; exact absurd h.symm hne; exact h)
      simp only [List.length_cons]; push_cast; omega
theorem findI_lo (p : P2) (l : List P2) (s : Int) (hs : 0 ≤ s) : -1 ≤ findI p l s ∧ findI p l s < s + l.length := by
  by_cases h : p ∈ l
  · have := findI_bd p l s h; omega
  · rw [findI_none h]; omega
/-- The number of the coset of two numbers. -/
def cosetI (n : Int) (l : List P2) (c d : Int) : Int := findI (normal n (c % n) (d % n)) l 0
def flat2 (l : List P2) : List Int := l.flatMap fun f => [f.x, f.y]
theorem flat2_len (l : List P2) : (flat2 l).length = l.length * 2 := by
  induction l with
  | nil => rfl
  | cons f l ih => simp only [flat2, List.flatMap_cons, List.length_append, List.length_cons] at *; simp at *; omega
theorem flat2_snoc (l : List P2) (f : P2) : flat2 (l ++ [f]) = flat2 l ++ [f.x, f.y] := by simp [flat2]
theorem flat2_append (l m : List P2) : flat2 (l ++ m) = flat2 l ++ flat2 m := by simp [flat2]
end Go.Proofs.Ytjnkogkpdbgohaa
/- Plain: continued fractions and their convergents. -/
namespace Go.Proofs.Ytjnkogkpdbgohaa
def cfL : Nat → Int → Int → List Int
  | 0, _, _ => []
  | k + 1, p, q => if q = 0 then [] else (p / q) :: cfL k q (p % q)
theorem cfL_zero (k : Nat) (p : Int) : cfL k p 0 = [] := by cases k <;> simp [cfL]
theorem cfL_step {k : Nat} {p q : Int} (hq : q ≠ 0) : cfL (k + 1) p q = (p / q) :: cfL k q (p % q) := by simp [cfL, hq]
theorem cfL_fuel : ∀ (k j : Nat) (p q : Int), 0 ≤ q → q < k → q < j → cfL k p q = cfL j p q
  | 0, _, _, _, _, h, _ => by omega
  | k + 1, 0, _, _, _, _, h => by omega
  | k + 1, j + 1, p, q, h0, h1, h2 => by
    by_cases hq : q = 0
    · subst hq; rw [cfL_zero, cfL_zero]
    · rw [cfL_step hq, cfL_step hq]
      have e1 := Int.emod_nonneg p hq
      have e2 := Int.emod_lt_of_pos p (show 0 < q by omega)
      rw [cfL_fuel k j q (p % q) e1 (by omega) (by omega)]
/-- The continued fraction of p/q. -/
def cfrac (p q : Int) : List Int := cfL (q.toNat + 1) p q
theorem cfrac_zero (p : Int) : cfrac p 0 = [] := cfL_zero _ _
theorem cfrac_step {p q : Int} (hq : 0 < q) : cfrac p q = (p / q) :: cfrac q (p % q) := by
  have e1 := Int.emod_nonneg p (show q ≠ 0 by omega)
  have e2 := Int.emod_lt_of_pos p hq
  unfold cfrac
  rw [cfL_step (by omega), cfL_fuel q.toNat ((p % q).toNat + 1) q (p % q) e1 (by omega) (by omega)]
/-- Convergents: last a/b, before it p/q. -/
def convL : List Int → Int → Int → Int → Int → List P2
  | [], _, _, _, _ => []
  | n :: l, a, b, p, q => ⟨n * a + p, n * b + q⟩ :: convL l (n * a + p) (n * b + q) a b
theorem convL_len : ∀ (l : List Int) (a b p q : Int), (convL l a b p q).length = l.length
  | [], _, _, _, _ => rfl
  | n :: l, a, b, p, q => by simp [convL, convL_len l]
structure E9 (x : Int) : Prop where
  lo : -1000000000 ≤ x
  hi : x ≤ 1000000000
/-- What holds from the first step on. -/
structure CfInv (P Q x y a b p q : Int) : Prop where
  l1 : a * x + p * y = P
  l2 : b * x + q * y = Q
  x1 : 1 ≤ x
  y0 : 0 ≤ y
  yx : y < x
  b1 : 1 ≤ b
  q0 : 0 ≤ q
  sg : (0 ≤ a ∧ 0 ≤ p) ∨ (a ≤ 0 ∧ p ≤ 0) ∨ (p = 1 ∧ a ≤ -1 ∧ P ≤ a)
  pe : E9 p
  qe : q ≤ 1000000000
theorem CfInv.bd {P Q x y a b p q : Int} (h : CfInv P Q x y a b p q) (hP : E9 P) (hQ : Q ≤ 1000000000) : E9 a ∧ b ≤ 1000000000 := by
  obtain ⟨l1, l2, x1, y0, yx, b1, q0, sg, _, _⟩ := h
  obtain ⟨P0, P1⟩ := hP
  have hqy : 0 ≤ q * y := Int.mul_nonneg q0 y0
  have hbx : b * 1 ≤ b * x := Int.mul_le_mul_of_nonneg_left x1 (by omega)
  refine ⟨?_, by omega⟩
  rcases sg with ⟨h1, h2⟩ | ⟨h1, h2⟩ | ⟨h1, h2, h3⟩
  · have e1 : 0 ≤ p * y := Int.mul_nonneg h2 y0
    have e2 : a * 1 ≤ a * x := Int.mul_le_mul_of_nonneg_left x1 h1
    exact ⟨by omega, by omega⟩
  · have e1 : 0 ≤ (-p) * y := Int.mul_nonneg (by omega) y0
    have e2 : (-a) * 1 ≤ (-a) * x := Int.mul_le_mul_of_nonneg_left x1 (by omega)
    rw [Int.neg_mul] at e1 e2
    rw [Int.neg_mul] at e2
    exact ⟨by omega, by omega⟩
  · exact ⟨by omega, by omega⟩
theorem CfInv.start {P Q : Int} (hQ : 0 < Q) : CfInv P Q Q (P % Q) (P / Q) 1 1 0 := by
  have e0 := Int.mul_ediv_add_emod P Q
  have e1 := Int.emod_nonneg P (show Q ≠ 0 by omega)
  have e2 := Int.emod_lt_of_pos P hQ
  refine ⟨by rw [Int.mul_comm (P / Q) Q]; omega, by omega, by omega, e1, e2, by omega, by omega, ?_, ⟨by omega, by omega⟩, by omega⟩
  by_cases h : 0 ≤ P / Q
  · exact .inl ⟨h, by omega⟩
  · refine .inr (.inr ⟨rfl, by omega, ?_⟩)
    have h2 : (-(P / Q + 1)) * 1 ≤ (-(P / Q + 1)) * Q := Int.mul_le_mul_of_nonneg_left (by omega) (by omega)
    rw [Int.neg_mul, Int.neg_mul, Int.add_mul, Int.add_mul, Int.mul_comm (P / Q) Q] at h2
    omega
theorem CfInv.step {P Q x y a b p q : Int} (h : CfInv P Q x y a b p q) (hP : E9 P) (hQ : Q ≤ 1000000000) (hy : 0 < y) : CfInv P Q y (x % y) (x / y * a + p) (x / y * b + q) a b := by
  obtain ⟨ae, be⟩ := h.bd hP hQ
  obtain ⟨l1, l2, x1, y0, yx, b1, q0, sg, _, _⟩ := h
  have e0 := Int.mul_ediv_add_emod x y
  have e1 := Int.emod_nonneg x (show y ≠ 0 by omega)
  have e2 := Int.emod_lt_of_pos x hy
  have hk : 1 ≤ x / y := (Int.le_ediv_iff_mul_le hy).2 (by omega)
  generalize hkd : x / y = k at *
  have em : x % y = x - y * k := by omega
  refine ⟨?_, ?_, by omega, e1, e2, ?_, by omega, ?_, ae, be⟩
  · rw [em]; grind
  · rw [em]; grind
  · have := Int.mul_le_mul hk b1 (by omega) (by omega)
    omega
  · rcases sg with ⟨h1, h2⟩ | ⟨h1, h2⟩ | ⟨h1, h2, h3⟩
    · exact .inl ⟨by have := Int.mul_nonneg (show 0 ≤ k by omega) h1; omega, h1⟩
    · refine .inr (.inl ⟨?_, h1⟩)
      have := Int.mul_nonneg (show 0 ≤ k by omega) (show 0 ≤ -a by omega)
      rw [Int.mul_neg] at this; omega
    · refine .inr (.inl ⟨?_, by omega⟩)
      have := Int.mul_le_mul hk (show 1 ≤ -a by omega) (by omega) (by omega)
      rw [Int.mul_neg] at this; omega
/-- All convergents that are still to come have small numbers. -/
def convOk : List Int → Int → Int → Int → Int → Prop
  | [], _, _, _, _ => True
  | n :: l, a, b, p, q => E9 (n * a + p) ∧ E9 (n * b + q) ∧ convOk l (n * a + p) (n * b + q) a b
theorem convOk_of {P Q : Int} (hP : E9 P) (hQ : Q ≤ 1000000000) : ∀ (n : Nat) (x y a b p q : Int), y < n → CfInv P Q x y a b p q → convOk (cfrac x y) a b p q
  | 0, x, y, a, b, p, q, hn, h => by have := h.y0; omega
  | n + 1, x, y, a, b, p, q, hn, h => by
    by_cases hy : y = 0
    · subst hy; rw [cfrac_zero]; trivial
    · have hy0 : 0 < y := by have := h.y0; omega
      rw [cfrac_step hy0]
      have h2 := h.step hP hQ hy0
      obtain ⟨e1, e2⟩ := h2.bd hP hQ
      have e3 := h2.b1
      refine ⟨e1, ⟨by omega, e2⟩, convOk_of hP hQ n _ _ _ _ _ _ (by have := Int.emod_lt_of_pos x hy0; omega) h2⟩
theorem convOk_all {P Q : Int} (hP : E9 P) (hQ0 : 0 < Q) (hQ : Q ≤ 1000000000) : convOk (cfrac P Q) 1 0 0 1 := by
  rw [cfrac_step hQ0]
  have h := CfInv.start (P := P) hQ0
  obtain ⟨e1, e2⟩ := h.bd hP hQ
  refine ⟨by rw [Int.mul_one, Int.add_zero]; exact e1, by rw [Int.mul_zero, Int.zero_add]; exact ⟨by omega, by omega⟩, ?_⟩
  rw [Int.mul_one, Int.add_zero, Int.mul_zero, Int.zero_add]
  exact convOk_of hP hQ ((P % Q).toNat + 1) _ _ _ _ _ _ (by have := Int.emod_nonneg P (show Q ≠ 0 by omega); omega) h
/-- The chain of a fraction. -/
def chainL (p q : Int) : List P2 := ⟨1, 0⟩ :: convL (cfrac p q) 1 0 0 1
theorem half_rest {q r : Int} (hr : 0 < r) (h : r < q) : 2 * (q % r) < q := by
  have e0 := Int.mul_ediv_add_emod q r
  have e1 := Int.emod_lt_of_pos q hr
  have hk : 1 ≤ q / r := (Int.le_ediv_iff_mul_le hr).2 (by omega)
  have h2 : r * 1 ≤ r * (q / r) := Int.mul_le_mul_of_nonneg_left hk (by omega)
  omega
theorem cfrac_log : ∀ (j : Nat) (p q : Int), 0 ≤ q → q < (2 ^ j : Nat) → (cfrac p q).length ≤ 2 * j
  | 0, p, q, h0, h1 => by
    obtain rfl : q = 0 := by simp at h1; omega
    rw [cfrac_zero]; simp
  | j + 1, p, q, h0, h1 => by
    by_cases hq : q = 0
    · subst hq; rw [cfrac_zero]; simp
    · have e1 := Int.emod_nonneg p hq
      have e2 := Int.emod_lt_of_pos p (show 0 < q by omega)
      rw [cfrac_step (by omega)]
      generalize p % q = r at *
      by_cases hr : r = 0
      · subst hr; rw [cfrac_zero]; simp; omega
      · rw [cfrac_step (show 0 < r by omega)]
        have e3 := half_rest (show 0 < r by omega) e2
        have e4 := Int.emod_nonneg q hr
        have := cfrac_log j r (q % r) e4 (by rw [Nat.pow_succ] at h1; push_cast at h1 ⊢; omega)
        simp only [List.length_cons]; omega
theorem cfrac_len {p q : Int} (h0 : 0 ≤ q) (h1 : q ≤ 1000000000) : (cfrac p q).length ≤ 60 := cfrac_log 30 p q h0 (by omega)
end Go.Proofs.Ytjnkogkpdbgohaa
/- Plain: distances along a continued fraction: one of two neighbours is replaced by the mediant. -/
namespace Go.Proofs.Ytjnkogkpdbgohaa
/-- The target P/Q lies between A and B, with the numbers b and a; y and x are the distances of A and B. -/
structure Fr (P Q : Int) (A B : V2) (x y : Nat) (a b : Int) : Prop where
  det : vdet A B = 1
  qa : 0 ≤ A.q
  qb : 0 ≤ B.q
  tp : P = b * A.p + a * B.p
  tq : Q = b * A.q + a * B.q
  dy : IsD vInf A y
  dx : IsD vInf B x
theorem Fr.out {P Q : Int} {A B : V2} {x y : Nat} {a b : Int} (h : Fr P Q A B x y a b) : ¬ Inn A B vInf := by
  unfold Inn
  have e1 : vdet vInf B = B.q := by simp [vdet, vInf]
  have e2 : vdet A vInf = -A.q := by simp [vdet, vInf]
  rw [e1, e2]
  have := Int.mul_nonneg h.qb h.qa
  rw [Int.mul_neg]; omega
theorem Fr.start {P Q : Int} : Fr P Q ⟨1, 0⟩ ⟨P / Q, 1⟩ 1 0 Q (P % Q) := by
  have e0 := Int.mul_ediv_add_emod P Q
  refine ⟨by simp [vdet], by simp, by simp, ?_, by simp, IsD.inf0, IsD.inf1 _⟩
  simp; omega
theorem Fr.left {P Q : Int} {A B : V2} {x y : Nat} {a b : Int} (h : Fr P Q A B x y a b) : Fr P Q (vadd A B) B x (1 + min y x) (a - b) b := by
  have hm := IsD.mediant h.det h.out h.dy h.dx
  obtain ⟨hd, qa, qb, tp, tq, dy, dx⟩ := h
  refine ⟨?_, ?_, qb, ?_, ?_, hm, dx⟩
  · rw [← hd]; unfold vdet vadd; grind
  · show 0 ≤ A.q + B.q; omega
  · rw [tp]; show _ = b * (A.p + B.p) + _; grind
  · rw [tq]; show _ = b * (A.q + B.q) + _; grind
theorem Fr.right {P Q : Int} {A B : V2} {x y : Nat} {a b : Int} (h : Fr P Q A B x y a b) : Fr P Q A (vadd A B) (1 + min y x) y a (b - a) := by
  have hm := IsD.mediant h.det h.out h.dy h.dx
  obtain ⟨hd, qa, qb, tp, tq, dy, dx⟩ := h
  refine ⟨?_, qa, ?_, ?_, ?_, dy, hm⟩
  · rw [← hd]; unfold vdet vadd; grind
  · show 0 ≤ A.q + B.q; omega
  · rw [tp]; show _ = _ + a * (A.p + B.p); grind
  · rw [tq]; show _ = _ + a * (A.q + B.q); grind
/-- Nothing turns: many steps at once. -/
theorem Fr.lefts {P Q : Int} {B : V2} {x y : Nat} {b : Int} (hs : 1 + min y x = y) : ∀ (k : Nat) {A : V2} {a : Int}, Fr P Q A B x y a b → ∃ A', Fr P Q A' B x y (a - k * b) b
  | 0, A, a, h => ⟨A, by simpa using h⟩
  | k + 1, A, a, h => by
    have h1 := h.left
    rw [hs] at h1
    obtain ⟨A', h2⟩ := Fr.lefts hs k h1
    refine ⟨A', ?_⟩
    have e : a - b - (k : Int) * b = a - ((k + 1 : Nat) : Int) * b := by push_cast; grind
    rwa [e] at h2
theorem Fr.rights {P Q : Int} {A : V2} {x y : Nat} {a : Int} (hs : 1 + min y x = x) : ∀ (k : Nat) {B : V2} {b : Int}, Fr P Q A B x y a b → ∃ B', Fr P Q A B' x y a (b - k * a)
  | 0, B, b, h => ⟨B, by simpa using h⟩
  | k + 1, B, b, h => by
    have h1 := h.right
    rw [hs] at h1
    obtain ⟨B', h2⟩ := Fr.rights hs k h1
    refine ⟨B', ?_⟩
    have e : b - a - (k : Int) * a = b - ((k + 1 : Nat) : Int) * a := by push_cast; grind
    rwa [e] at h2
theorem Fr.end_ {P Q : Int} {A B : V2} {x y : Nat} (h : Fr P Q A B x y 1 1) : IsD vInf ⟨P, Q⟩ (1 + min y x) := by
  have hm := IsD.mediant h.det h.out h.dy h.dx
  have e : (⟨P, Q⟩ : V2) = vadd A B := by
    rw [h.tp, h.tq]; simp [vadd]
  rw [e]; exact hm
theorem gcd_emodL (a b : Int) : Int.gcd (a % b) b = Int.gcd a b := by
  rw [Int.emod_def, Int.mul_comm, Int.gcd_sub_mul_right_left]
/-- Ahead of the i-th number of the continued fraction: its list from there on. -/
structure FarAt (P Q : Int) (L : List Int) (i : Nat) (x y : Nat) (a b : Int) : Prop where
  fr : ∃ A B, Fr P Q A B x y a b
  tl : L.drop i = if i % 2 = 1 then cfrac a b else cfrac b a
  lt : if i % 2 = 1 then b < a else a < b
  a0 : 0 ≤ a
  b0 : 0 ≤ b
  cop : Int.gcd a b = 1
  xb : x ≤ i
  yb : y ≤ i
theorem FarAt.start {P Q : Int} (hQ : 0 < Q) (hg : Int.gcd P Q = 1) : FarAt P Q (cfrac P Q) 1 1 0 Q (P % Q) := by
  have e1 := Int.emod_nonneg P (show Q ≠ 0 by omega)
  have e2 := Int.emod_lt_of_pos P hQ
  refine ⟨⟨_, _, Fr.start⟩, ?_, by simpa using e2, by omega, e1, ?_, by omega, by omega⟩
  · rw [cfrac_step hQ]; simp
  · rw [Int.gcd_comm, gcd_emodL]; exact hg
/-- Within the n steps of the i-th number; r is the rest that stays. -/
structure FarIn (P Q : Int) (L : List Int) (i : Nat) (x y : Nat) (a b : Int) (n r : Int) : Prop where
  fr : ∃ A B, Fr P Q A B x y a b
  n0 : 0 ≤ n
  r0 : 0 ≤ r
  odd : i % 2 = 1 → a = n * b + r ∧ r < b ∧ L.drop (i + 1) = cfrac b r ∧ Int.gcd b r = 1 ∧ x ≤ i ∧ y ≤ i + 1
  even : i % 2 ≠ 1 → b = n * a + r ∧ r < a ∧ L.drop (i + 1) = cfrac a r ∧ Int.gcd a r = 1 ∧ y ≤ i ∧ x ≤ i + 1
theorem drop_cons {L : List Int} {i : Nat} {n : Int} {l : List Int} (h : L.drop i = n :: l) : L[i]? = some n ∧ L.drop (i + 1) = l ∧ i < L.length := by
  have h1 : i < L.length := by
    refine Nat.lt_of_not_le fun hh => ?_
    rw [List.drop_eq_nil_of_le hh] at h; cases h
  rw [List.drop_eq_getElem_cons h1] at h
  injection h with h2 h3
  exact ⟨by rw [List.getElem?_eq_getElem h1, h2], h3, h1⟩
theorem gcd_rest {a b : Int} (h : Int.gcd a b = 1) : Int.gcd b (a % b) = 1 := by
  rw [Int.gcd_comm, gcd_emodL]; exact h
theorem FarAt.enter {P Q : Int} {L : List Int} {i x y : Nat} {a b : Int} (h : FarAt P Q L i x y a b) (hi : i < L.length) : ∃ n r, L[i]? = some n ∧ FarIn P Q L i x y a b n r := by
  obtain ⟨fr, tl, lt, a0, b0, cop, xb, yb⟩ := h
  have hne : L.drop i ≠ [] := by
    intro e
    have := List.length_drop (i := i) (l := L)
    rw [e] at this; simp at this; omega
  by_cases ho : i % 2 = 1
  · rw [if_pos ho] at tl lt
    have hb : 0 < b := by
      rcases Int.lt_or_eq_of_le b0 with h | h
      · exact h
      · rw [← h, cfrac_zero] at tl; exact absurd tl hne
    rw [cfrac_step hb] at tl
    obtain ⟨t1, t2, -⟩ := drop_cons tl
    have e0 := Int.mul_ediv_add_emod a b
    have e1 := Int.emod_nonneg a (show b ≠ 0 by omega)
    have e2 := Int.emod_lt_of_pos a hb
    have e3 : 0 ≤ a / b := Int.ediv_nonneg a0 b0
    refine ⟨a / b, a % b, t1, fr, e3, e1, fun _ => ⟨?_, e2, t2, gcd_rest cop, xb, by omega⟩, fun h => absurd ho h⟩
    rw [Int.mul_comm]; omega
  · rw [if_neg ho] at tl lt
    have ha : 0 < a := by
      rcases Int.lt_or_eq_of_le a0 with h | h
      · exact h
      · rw [← h, cfrac_zero] at tl; exact absurd tl hne
    rw [cfrac_step ha] at tl
    obtain ⟨t1, t2, -⟩ := drop_cons tl
    have e0 := Int.mul_ediv_add_emod b a
    have e1 := Int.emod_nonneg b (show a ≠ 0 by omega)
    have e2 := Int.emod_lt_of_pos b ha
    have e3 : 0 ≤ b / a := Int.ediv_nonneg b0 a0
    refine ⟨b / a, b % a, t1, fr, e3, e1, fun h => absurd h ho, fun _ => ⟨?_, e2, t2, gcd_rest (by rw [Int.gcd_comm]; exact cop), yb, by omega⟩⟩
    rw [Int.mul_comm]; omega
theorem FarIn.leave {P Q : Int} {L : List Int} {i x y : Nat} {a b r : Int} (h : FarIn P Q L i x y a b 0 r) : FarAt P Q L (i + 1) x y a b := by
  obtain ⟨fr, n0, r0, odd, even⟩ := h
  by_cases ho : i % 2 = 1
  · obtain ⟨h1, h2, h3, h4, h5, h6⟩ := odd ho
    obtain rfl : a = r := by omega
    have hn : ¬ (i + 1) % 2 = 1 := by omega
    refine ⟨fr, by rw [if_neg hn]; exact h3, by rw [if_neg hn]; exact h2, r0, by omega, by rw [Int.gcd_comm]; exact h4, by omega, h6⟩
  · obtain ⟨h1, h2, h3, h4, h5, h6⟩ := even ho
    obtain rfl : b = r := by omega
    have hn : (i + 1) % 2 = 1 := by omega
    refine ⟨fr, by rw [if_pos hn]; exact h3, by rw [if_pos hn]; exact h2, by omega, r0, h4, h6, by omega⟩
/-- The last step of the last number. -/
theorem FarIn.last {P Q : Int} {L : List Int} {i x y : Nat} {a b r : Int} (h : FarIn P Q L i x y a b 1 r) (hl : i + 1 = L.length) : IsD vInf ⟨P, Q⟩ (1 + min x y) := by
  obtain ⟨fr, n0, r0, odd, even⟩ := h
  obtain ⟨A, B, fr⟩ := fr
  have hd : L.drop (i + 1) = [] := List.drop_eq_nil_of_le (by omega)
  have key : ∀ u : Int, 0 < u → r < u → cfrac u r = [] → Int.gcd u r = 1 → r = 0 ∧ u = 1 := by
    intro u hu hr hc hg
    have h0 : r = 0 := by
      rcases Int.lt_or_eq_of_le r0 with h | h
      · rw [cfrac_step h] at hc; cases hc
      · exact h.symm
    subst h0
    rw [Int.gcd_zero_right] at hg
    exact ⟨rfl, by omega⟩
  rw [Nat.min_comm]
  by_cases ho : i % 2 = 1
  · obtain ⟨h1, h2, h3, h4, -, -⟩ := odd ho
    obtain ⟨k1, k2⟩ := key b (by omega) h2 (by rw [← h3]; exact hd) h4
    subst k1; subst k2
    obtain rfl : a = 1 := by omega
    exact fr.end_
  · obtain ⟨h1, h2, h3, h4, -, -⟩ := even ho
    obtain ⟨k1, k2⟩ := key a (by omega) h2 (by rw [← h3]; exact hd) h4
    subst k1; subst k2
    obtain rfl : b = 1 := by omega
    exact fr.end_
/-- One step; and many of them if nothing turns. -/
theorem FarIn.odd_step {P Q : Int} {L : List Int} {i x y : Nat} {a b n r : Int} (h : FarIn P Q L i x y a b n r) (ho : i % 2 = 1) (hn : 0 < n) : FarIn P Q L i x (1 + min x y) (a - b) b (n - 1) r := by
  obtain ⟨⟨A, B, fr⟩, n0, r0, odd, even⟩ := h
  obtain ⟨h1, h2, h3, h4, h5, h6⟩ := odd ho
  refine ⟨⟨_, _, by rw [Nat.min_comm]; exact fr.left⟩, by omega, r0, fun _ => ⟨?_, h2, h3, h4, h5, by omega⟩, fun h => absurd ho h⟩
  rw [h1]; grind
theorem FarIn.even_step {P Q : Int} {L : List Int} {i x y : Nat} {a b n r : Int} (h : FarIn P Q L i x y a b n r) (ho : i % 2 ≠ 1) (hn : 0 < n) : FarIn P Q L i (1 + min x y) y a (b - a) (n - 1) r := by
  obtain ⟨⟨A, B, fr⟩, n0, r0, odd, even⟩ := h
  obtain ⟨h1, h2, h3, h4, h5, h6⟩ := even ho
  refine ⟨⟨_, _, by rw [Nat.min_comm]; exact fr.right⟩, by omega, r0, fun h => absurd h ho, fun _ => ⟨?_, h2, h3, h4, h5, by omega⟩⟩
  rw [h1]; grind
theorem FarIn.odd_skip {P Q : Int} {L : List Int} {i x y : Nat} {a b n r : Int} (h : FarIn P Q L i x y a b n r) (ho : i % 2 = 1) (hs : 1 + min x y = y) (k : Nat) (hk : (k : Int) ≤ n) : FarIn P Q L i x y (a - k * b) b (n - k) r := by
  obtain ⟨⟨A, B, fr⟩, n0, r0, odd, even⟩ := h
  obtain ⟨h1, h2, h3, h4, h5, h6⟩ := odd ho
  obtain ⟨A', fr'⟩ := fr.lefts (by rw [Nat.min_comm]; exact hs) k
  refine ⟨⟨_, _, fr'⟩, by omega, r0, fun _ => ⟨?_, h2, h3, h4, h5, h6⟩, fun h => absurd ho h⟩
  rw [h1]; grind
theorem FarIn.even_skip {P Q : Int} {L : List Int} {i x y : Nat} {a b n r : Int} (h : FarIn P Q L i x y a b n r) (ho : i % 2 ≠ 1) (hs : 1 + min x y = x) (k : Nat) (hk : (k : Int) ≤ n) : FarIn P Q L i x y a (b - k * a) (n - k) r := by
  obtain ⟨⟨A, B, fr⟩, n0, r0, odd, even⟩ := h
  obtain ⟨h1, h2, h3, h4, h5, h6⟩ := even ho
  obtain ⟨B', fr'⟩ := fr.rights (by rw [Nat.min_comm]; exact hs) k
  refine ⟨⟨_, _, fr'⟩, by omega, r0, fun h => absurd h ho, fun _ => ⟨?_, h2, h3, h4, h5, h6⟩⟩
  rw [h1]; grind
/-- Behind all numbers nothing is left: only for a whole number. -/
theorem FarAt.done {P Q : Int} (hQ : 0 < Q) (hg : Int.gcd P Q = 1) (h : (cfrac P Q).length = 1) : IsD vInf ⟨P, Q⟩ 1 := by
  rw [cfrac_step hQ] at h
  simp at h
  have e1 := Int.emod_nonneg P (show Q ≠ 0 by omega)
  have h0 : P % Q = 0 := by
    rcases Int.lt_or_eq_of_le e1 with h1 | h1
    · rw [cfrac_step h1] at h; cases h
    · exact h1.symm
  have hq : Q = 1 := by
    have h2 := gcd_rest hg
    rw [h0, Int.gcd_zero_right] at h2; omega
  subst hq
  exact IsD.inf1 P
end Go.Proofs.Ytjnkogkpdbgohaa
/- Plain: continued fractions and their values, both ways. -/
namespace Go.Proofs.Ytjnkogkpdbgohaa

/-- Numerator and denominator. -/
def cv : List Int → V2
  | [] => ⟨1, 0⟩
  | n :: l => ⟨n * (cv l).p + (cv l).q, (cv l).p⟩
/-- The tail of a continued fraction: all numbers at least 1, the last one at least 2. -/
structure Tail (l : List Int) : Prop where
  ge : ∀ x ∈ l, 1 ≤ x
  last : ∀ x, l.getLast? = some x → 2 ≤ x
theorem Tail.tail {n : Int} {l : List Int} (h : Tail (n :: l)) : Tail l := by
  refine ⟨fun x hx => h.ge x (List.mem_cons_of_mem _ hx), fun x hx => h.last x ?_⟩
  cases l with
  | nil => simp at hx
  | cons m l => simpa using hx
structure CvT (l : List Int) : Prop where
  q0 : 0 ≤ (cv l).q
  qp : (cv l).q < (cv l).p
  ne : l ≠ [] → 0 < (cv l).q
  back : cfrac (cv l).p (cv l).q = l
  cop : Int.gcd (cv l).p (cv l).q = 1
theorem cfrac_of {n p q : Int} (h0 : 0 ≤ q) (h1 : q < p) : cfrac (n * p + q) p = n :: cfrac p q := by
  have e1 : (n * p + q) / p = n := by
    rw [Int.add_comm, Int.add_mul_ediv_right _ _ (by omega), Int.ediv_eq_zero_of_lt h0 h1]; omega
  have e2 : (n * p + q) % p = q := by
    rw [Int.add_comm, Int.add_mul_emod_self_right, Int.emod_eq_of_lt h0 h1]
  rw [cfrac_step (by omega), e1, e2]
theorem gcd_lin (n p q : Int) : Int.gcd (n * p + q) p = Int.gcd p q := by
  rw [Int.add_comm, Int.gcd_add_mul_right_left, Int.gcd_comm]
theorem cv_tail : ∀ {l : List Int}, Tail l → CvT l
  | [], _ => ⟨by simp [cv], by simp [cv], fun h => absurd rfl h, by simp only [cv]; exact cfrac_zero 1, by simp [cv]⟩
  | n :: l, h => by
    have ih := cv_tail h.tail
    have hn := h.ge n (by simp)
    obtain ⟨q0, qp, ne, back, cop⟩ := ih
    have e : cv (n :: l) = ⟨n * (cv l).p + (cv l).q, (cv l).p⟩ := rfl
    rw [show CvT (n :: l) ↔ CvT (n :: l) from Iff.rfl]
    generalize hp : (cv l).p = p at *
    generalize hq : (cv l).q = q at *
    refine ⟨by rw [e]; show 0 ≤ p; omega, ?_, fun _ => by rw [e]; show 0 < p; omega, by rw [e]; show cfrac (n * p + q) p = _; rw [cfrac_of q0 qp, back], by rw [e]; show Int.gcd (n * p + q) p = 1; rw [gcd_lin]; exact cop⟩
    rw [e]
    show p < n * p + q
    cases l with
    | nil =>
      have h2 := h.last n (by simp)
      have hp1 : p = 1 := by rw [← hp]; rfl
      subst hp1; omega
    | cons m l =>
      have := ne (by simp)
      have h2 : 1 * p ≤ n * p := Int.mul_le_mul_of_nonneg_right hn (by omega)
      omega
/-- A continued fraction: any first number, then a tail. -/
theorem cv_list {n : Int} {l : List Int} (h : Tail l) : cfrac (cv (n :: l)).p (cv (n :: l)).q = n :: l ∧ 0 < (cv (n :: l)).q ∧ Int.gcd (cv (n :: l)).p (cv (n :: l)).q = 1 := by
  obtain ⟨q0, qp, ne, back, cop⟩ := cv_tail h
  refine ⟨?_, ?_, ?_⟩
  · show cfrac (n * (cv l).p + (cv l).q) (cv l).p = _
    rw [cfrac_of q0 qp, back]
  · show 0 < (cv l).p; omega
  · show Int.gcd (n * (cv l).p + (cv l).q) (cv l).p = 1
    rw [gcd_lin]; exact cop
/-- The last convergent is the value. -/
theorem conv_last : ∀ (l : List Int) (a b p q : Int), l ≠ [] → (convL l a b p q).getLast? = some ⟨(cv l).p * a + (cv l).q * p, (cv l).p * b + (cv l).q * q⟩
  | [], _, _, _, _, h => absurd rfl h
  | [n], a, b, p, q, _ => by simp [convL, cv]
  | n :: m :: l, a, b, p, q, _ => by
    have ih := conv_last (m :: l) (n * a + p) (n * b + q) a b (by simp)
    have e : convL (n :: m :: l) a b p q = ⟨n * a + p, n * b + q⟩ :: convL (m :: l) (n * a + p) (n * b + q) a b := rfl
    have hne : convL (m :: l) (n * a + p) (n * b + q) a b ≠ [] := by simp [convL]
    rw [e, List.getLast?_cons, ih]
    have e2 : cv (n :: m :: l) = ⟨n * (cv (m :: l)).p + (cv (m :: l)).q, (cv (m :: l)).p⟩ := rfl
    rw [e2]
    generalize (cv (m :: l)).p = x
    generalize (cv (m :: l)).q = y
    simp only [Option.getD_some, Option.some.injEq, P2.mk.injEq]
    exact ⟨by grind, by grind⟩
/-- The continued fraction of a fraction has it as its value. -/
theorem cv_cfrac : ∀ (k : Nat) (p q : Int), 0 ≤ q → q < k → Int.gcd p q = 1 → (0 < q ∨ p = 1) → cv (cfrac p q) = ⟨p, q⟩
  | 0, _, _, h0, h1, _, _ => by omega
  | k + 1, p, q, h0, h1, hg, hp => by
    by_cases hq : q = 0
    · subst hq
      rw [cfrac_zero]
      rcases hp with hp | rfl
      · omega
      · rfl
    · have e1 := Int.emod_nonneg p hq
      have e2 := Int.emod_lt_of_pos p (show 0 < q by omega)
      have e0 := Int.mul_ediv_add_emod p q
      rw [cfrac_step (by omega)]
      have hg2 := gcd_rest hg
      have ih := cv_cfrac k q (p % q) e1 (by omega) hg2 (by
        rcases Int.lt_or_eq_of_le e1 with h | h
        · exact .inl h
        · right; rw [← h, Int.gcd_zero_right] at hg2; omega)
      show (⟨(p / q) * (cv (cfrac q (p % q))).p + (cv (cfrac q (p % q))).q, (cv (cfrac q (p % q))).p⟩ : V2) = _
      rw [ih]
      simp only [V2.mk.injEq, and_true]
      rw [Int.mul_comm]; exact e0
theorem cfrac_tail : ∀ (k : Nat) (p q : Int), 0 ≤ q → q < p → q < k → Int.gcd p q = 1 → Tail (cfrac p q)
  | 0, _, _, h0, _, h1, _ => by omega
  | k + 1, p, q, h0, hlt, h1, hg => by
    by_cases hq : q = 0
    · subst hq
      rw [cfrac_zero]
      exact ⟨fun x hx => by simp at hx, fun x hx => by simp at hx⟩
    · have e1 := Int.emod_nonneg p hq
      have e2 := Int.emod_lt_of_pos p (show 0 < q by omega)
      rw [cfrac_step (by omega)]
      have hg2 := gcd_rest hg
      have ih := cfrac_tail k q (p % q) e1 e2 (by omega) hg2
      have hn : 1 ≤ p / q := (Int.le_ediv_iff_mul_le (by omega)).2 (by omega)
      refine ⟨fun x hx => ?_, fun x hx => ?_⟩
      · rcases List.mem_cons.1 hx with rfl | hx
        · exact hn
        · exact ih.ge x hx
      · rw [List.getLast?_cons] at hx
        simp only [Option.some.injEq] at hx
        cases hl : (cfrac q (p % q)).getLast? with
        | some y => rw [hl] at hx; simp at hx; subst hx; exact ih.last _ hl
        | none =>
          rw [hl] at hx
          simp at hx
          rw [List.getLast?_eq_none_iff] at hl
          have hr : p % q = 0 := by
            rcases Int.lt_or_eq_of_le e1 with h | h
            · rw [cfrac_step h] at hl; cases hl
            · exact h.symm
          rw [hr, Int.gcd_zero_right] at hg2
          have hq1 : q = 1 := by omega
          subst hq1
          rw [← hx, Int.ediv_one]; omega
/-- What a list of numbers must be. -/
structure Cont (L : List Int) : Prop where
  n1 : 1 ≤ L.length
  n2 : L.length ≤ 60
  e : ∀ x ∈ L, E9 x
  t : ∀ x ∈ L.tail, 1 ≤ x
  z : 1 < L.length → ∀ x, L.getLast? = some x → 2 ≤ x
theorem Cont.tl {n : Int} {l : List Int} (h : Cont (n :: l)) : Tail l := by
  refine ⟨fun x hx => h.t x (by simpa using hx), fun x hx => ?_⟩
  cases l with
  | nil => simp at hx
  | cons m l => exact h.z (by simp) x (by simpa using hx)
theorem cfrac_e9 : ∀ (k : Nat) (p q : Int), E9 p → 0 ≤ q → q ≤ 1000000000 → q < k → ∀ x ∈ cfrac p q, E9 x
  | 0, _, _, _, h0, _, h1 => by omega
  | k + 1, p, q, hp, h0, hq1, h1 => by
    by_cases hq : q = 0
    · subst hq; rw [cfrac_zero]; simp
    · have e1 := Int.emod_nonneg p hq
      have e2 := Int.emod_lt_of_pos p (show 0 < q by omega)
      have e0 := Int.mul_ediv_add_emod p q
      rw [cfrac_step (by omega)]
      intro x hx
      rcases List.mem_cons.1 hx with rfl | hx
      · obtain ⟨p0, p1⟩ := hp
        constructor
        · refine (Int.le_ediv_iff_mul_le (by omega)).2 ?_
          have := Int.mul_le_mul_of_nonpos_left (a := -1000000000) (b := q) (c := 1) (by omega) (by omega)
          omega
        · refine Int.ediv_le_of_le_mul (by omega) ?_
          have := Int.mul_le_mul_of_nonneg_left (a := 1) (b := q) (c := 1000000000) (by omega) (by omega)
          omega
      · exact cfrac_e9 k q (p % q) ⟨by omega, by omega⟩ e1 (by omega) (by omega) x hx
theorem cfrac_cont {p q : Int} (hp : E9 p) (h0 : 0 < q) (h1 : q ≤ 1000000000) (hg : Int.gcd p q = 1) : Cont (cfrac p q) := by
  have hl := cfrac_len (p := p) (q := q) (by omega) h1
  have he := cfrac_e9 (q.toNat + 1) p q hp (by omega) h1 (by omega)
  have e1 := Int.emod_nonneg p (show q ≠ 0 by omega)
  have e2 := Int.emod_lt_of_pos p h0
  have hT := cfrac_tail (q.toNat + 1) q (p % q) e1 e2 (by omega) (gcd_rest hg)
  rw [cfrac_step h0] at hl he ⊢
  refine ⟨by simp, hl, he, fun x hx => hT.ge x (by simpa using hx), fun h x hx => hT.last x ?_⟩
  generalize cfrac q (p % q) = l at *
  cases l with
  | nil => simp at h
  | cons m l => simpa using hx
/-- Convergents one behind the other are neighbours. -/
theorem conv_near : ∀ (l : List Int) (a b p q : Int), (a * q - b * p = 1 ∨ a * q - b * p = -1) → ∀ i x y, (⟨a, b⟩ :: convL l a b p q)[i]? = some x → (⟨a, b⟩ :: convL l a b p q)[i + 1]? = some y → (x.x * y.y - x.y * y.x = 1 ∨ x.x * y.y - x.y * y.x = -1)
  | [], a, b, p, q, _, i, x, y, _, hy => by simp [convL] at hy
  | n :: l, a, b, p, q, hd, 0, x, y, hx, hy => by
    simp [convL] at hx hy
    subst hx; subst hy
    simp only
    have : a * (n * b + q) - b * (n * a + p) = a * q - b * p := by grind
    rw [this]; exact hd
  | n :: l, a, b, p, q, hd, i + 1, x, y, hx, hy => by
    have e : convL (n :: l) a b p q = ⟨n * a + p, n * b + q⟩ :: convL l (n * a + p) (n * b + q) a b := rfl
    rw [e] at hx hy
    refine conv_near l (n * a + p) (n * b + q) a b ?_ i x y (by simpa using hx) (by simpa using hy)
    have : (n * a + p) * b - (n * b + q) * a = -(a * q - b * p) := by grind
    rw [this]; omega
theorem conv_pos : ∀ (l : List Int) (a b p q : Int), 0 ≤ b → 0 ≤ q → (0 < b ∨ 0 < q) → (∀ x ∈ l.tail, 1 ≤ x) → (0 < b → ∀ x ∈ l, 1 ≤ x) → (b = 0 → 0 < q) → ∀ x ∈ convL l a b p q, 0 < x.y
  | [], _, _, _, _, _, _, _, _, _, _, x, hx => by simp [convL] at hx
  | n :: l, a, b, p, q, hb, hq, hbq, ht, hl, hz, x, hx => by
    have e : convL (n :: l) a b p q = ⟨n * a + p, n * b + q⟩ :: convL l (n * a + p) (n * b + q) a b := rfl
    have hpos : 0 < n * b + q := by
      rcases Int.lt_or_eq_of_le hb with h | h
      · have := Int.mul_le_mul_of_nonneg_right (hl h n (by simp)) hb
        omega
      · rw [← h]; have := hz h.symm; simp; exact this
    rw [e] at hx
    rcases List.mem_cons.1 hx with rfl | hx
    · exact hpos
    · have ht' : ∀ x ∈ l, 1 ≤ x := fun x hx => ht x (by simpa using hx)
      exact conv_pos l _ _ a b (by omega) hb (.inl hpos) (fun x hx => ht' x (List.mem_of_mem_tail hx)) (fun _ => ht') (fun h => by omega) x hx
/-- All convergents that are still to come have small numbers, as a test. -/
def cvB : List Int → Int → Int → Int → Int → Bool
  | [], _, _, _, _ => true
  | n :: l, a, b, p, q => (entB (n * a + p) && entB (n * b + q)) && cvB l (n * a + p) (n * b + q) a b
theorem e9_iff {x : Int} : entB x = true ↔ E9 x := by rw [entB_iff]; exact ⟨fun ⟨h1, h2⟩ => ⟨h1, h2⟩, fun ⟨h1, h2⟩ => ⟨h1, h2⟩⟩
theorem cvB_ok : ∀ {l : List Int} {a b p q : Int}, convOk l a b p q → cvB l a b p q = true
  | [], _, _, _, _, _ => rfl
  | n :: l, a, b, p, q, ⟨h1, h2, h3⟩ => by
    simp only [cvB, Bool.and_eq_true]
    exact ⟨⟨e9_iff.2 h1, e9_iff.2 h2⟩, cvB_ok h3⟩
theorem cvB_mem : ∀ {l : List Int} {a b p q : Int}, cvB l a b p q = true → ∀ x ∈ convL l a b p q, E9 x.x ∧ E9 x.y
  | [], _, _, _, _, _, x, hx => by simp [convL] at hx
  | n :: l, a, b, p, q, h, x, hx => by
    simp only [cvB, Bool.and_eq_true] at h
    rcases List.mem_cons.1 hx with rfl | hx
    · exact ⟨e9_iff.1 h.1.1, e9_iff.1 h.1.2⟩
    · exact cvB_mem h.2 x hx
end Go.Proofs.Ytjnkogkpdbgohaa
/- Plain facts: fractions. -/
namespace Go.Proofs.Ytjnkogkpdbgohaa
def isFrac (p q : Int) : Bool := entB p && (inB q 0 1000000000 && ((Int.gcd p q : Int) == 1 && (decide (0 < q) || p == 1)))
def fx (p q : Int) : Int := p.tdiv (Int.gcd p q : Int)
def fy (p q : Int) : Int := q.tdiv (Int.gcd p q : Int)
theorem gcd_pos_right {p q : Int} (h : 0 < q) : 0 < (Int.gcd p q : Int) := by
  have := Int.gcd_pos_of_ne_zero_right p (show q ≠ 0 by omega)
  omega
structure FracBd (p q K : Int) : Prop where
  g : 0 < (Int.gcd p q : Int)
  x0 : -K ≤ fx p q
  x1 : fx p q ≤ K
  y0 : -K ≤ fy p q
  y1 : fy p q ≤ K
theorem fracBd {p q K : Int} (h : 0 < q) (p0 : -K ≤ p) (p1 : p ≤ K) (q1 : q ≤ K) : FracBd p q K :=
  ⟨gcd_pos_right h, (tdiv_bd p0 p1).1, (tdiv_bd p0 p1).2, (tdiv_bd (a := q) (K := K) (by omega) q1).1, (tdiv_bd (a := q) (K := K) (by omega) q1).2⟩
theorem isFrac_iff {p q : Int} : isFrac p q = true ↔ (-1000000000 ≤ p ∧ p ≤ 1000000000) ∧ (0 ≤ q ∧ q ≤ 1000000000) ∧ (Int.gcd p q : Int) = 1 ∧ (0 < q ∨ p = 1) := by
  simp [isFrac, entB, inB]
end Go.Proofs.Ytjnkogkpdbgohaa
/- Plain facts: whole square roots; reduced forms. -/
namespace Go.Proofs.Ytjnkogkpdbgohaa
theorem mul_le_self {x y : Int} (h0 : 0 ≤ x) (h : x ≤ y) : x * x ≤ y * y := Int.le_trans (Int.mul_le_mul_of_nonneg_left h h0) (Int.mul_le_mul_of_nonneg_right h (Int.le_trans h0 h))
theorem lt_of_sq {x y : Int} (hy : 0 ≤ y) (h : x * x < y * y) : x < y := by
  refine Int.not_le.1 fun hh => ?_
  have := mul_le_self hy hh
  omega
theorem le_of_sq {x y : Int} (hy : 0 ≤ y) (h : x * x ≤ y * y) : x ≤ y := by
  refine Int.not_lt.1 fun hh => ?_
  have h1 : y + 1 ≤ x := by omega
  have := mul_le_self (show 0 ≤ y + 1 by omega) h1
  have h2 : (y + 1) * (y + 1) = y * y + 2 * y + 1 := by grind
  omega
/-- r is the whole square root of d. -/
structure IsRoot (r d : Int) : Prop where
  nn : 0 ≤ r
  lo : r * r ≤ d
  hi : d < (r + 1) * (r + 1)
theorem root_unique {r s d : Int} (h : IsRoot r d) (h' : IsRoot s d) : r = s := by
  have h1 : r < s + 1 := lt_of_sq (by have := h'.nn; omega) (Int.lt_of_le_of_lt h.lo h'.hi)
  have h2 : s < r + 1 := lt_of_sq (by have := h.nn; omega) (Int.lt_of_le_of_lt h'.lo h.hi)
  omega
def rootUp : Nat → Nat → Nat
  | 0, _ => 0
  | k + 1, n => if (rootUp k n + 1) * (rootUp k n + 1) ≤ n then rootUp k n + 1 else rootUp k n
theorem rootUp_lo : ∀ (k n : Nat), rootUp k n * rootUp k n ≤ n
  | 0, n => by simp [rootUp]
  | k + 1, n => by
    unfold rootUp
    split
    · assumption
    · exact rootUp_lo k n
theorem rootUp_hi : ∀ (k n : Nat), k ≤ rootUp k n ∨ n < (rootUp k n + 1) * (rootUp k n + 1)
  | 0, n => by simp
  | k + 1, n => by
    have ih := rootUp_hi k n
    unfold rootUp
    split
    · rename_i h
      rcases ih with h1 | h1
      · left; omega
      · omega
    · rename_i h; right; omega
def isqrt (d : Int) : Int := (rootUp (d.toNat + 1) d.toNat : Nat)
theorem isqrt_root {d : Int} (h : 0 ≤ d) : IsRoot (isqrt d) d := by
  have h1 := rootUp_lo (d.toNat + 1) d.toNat
  have h2 := rootUp_hi (d.toNat + 1) d.toNat
  unfold isqrt
  generalize rootUp (d.toNat + 1) d.toNat = r at h1 h2
  have e : ((d.toNat : Nat) : Int) = d := by omega
  have h1' : (r : Int) * r ≤ d := by rw [← e]; exact_mod_cast h1
  refine ⟨by omega, h1', ?_⟩
  rcases h2 with h2 | h2
  · have h3 : d + 1 ≤ (r : Int) := by omega
    have h4 : (r : Int) ≤ r * r := by
      have := Int.mul_le_mul_of_nonneg_left (show (1 : Int) ≤ r by omega) (show (0 : Int) ≤ r by omega)
      omega
    omega
  · rw [← e]; exact_mod_cast h2
def sqB (d : Int) : Bool := isqrt d * isqrt d == d
/-- The Bool of 'isReduced'. -/
def disc (a b c : Int) : Int := b * b - 4 * a * c
def redDef (a b c : Int) : Bool := decide (-a ≤ b ∧ b ≤ a ∧ a ≤ c ∧ (0 ≤ b ∨ (-b ≠ a ∧ a ≠ c)))
def redInd (a b c : Int) : Bool := decide (0 < b ∧ b * b < disc a b c ∧ disc a b c < (2 * (a.natAbs : Int) + b) * (2 * (a.natAbs : Int) + b) ∧ (2 * (a.natAbs : Int) < b ∨ (2 * (a.natAbs : Int) - b) * (2 * (a.natAbs : Int) - b) < disc a b c))
def redB (a b c : Int) : Bool := if disc a b c < 0 ∧ 0 < a then redDef a b c else redInd a b c
theorem disc_bd {a b c : Int} (h : Small a b c) : -4000000000000 ≤ disc a b c ∧ disc a b c ≤ 5000000000000 := by
  obtain ⟨a0, a1, b0, b1, c0, c1⟩ := h
  have h1 := mul_bd b0 b1 b0 b1
  have h2 := mul_bd (a := 4 * a) (b := c) (A := 4000000) (B := 1000000) (by omega) (by omega) c0 c1
  have h3 := sq_nn b
  unfold disc
  omega
end Go.Proofs.Ytjnkogkpdbgohaa
/- Plain facts: the whole square root by halves; reduced forms. -/
namespace Go.Proofs.Ytjnkogkpdbgohaa
structure SqInv (n x y : Int) : Prop where
  lo : x * x ≤ n
  st : (y = 0 ∧ n < (x + 1) * (x + 1)) ∨ ∃ j : Nat, y = ((2 ^ j : Nat) : Int) ∧ n < (x + 2 * y) * (x + 2 * y)
theorem sqInv_start {n : Int} (h0 : 0 ≤ n) (h : n ≤ 5000000000000) : SqInv n 0 2147483648 :=
  ⟨by simpa using h0, .inr ⟨31, by decide, by omega⟩⟩
theorem sqInv_x {n x y : Int} (h : SqInv n x y) (hn : n ≤ 5000000000000) : x ≤ 2236068 := by
  refine Int.not_lt.1 fun hh => ?_
  have h1 := mul_le_self (show (0 : Int) ≤ 2236069 by omega) (show (2236069 : Int) ≤ x by omega)
  have := h.lo
  omega
theorem sqInv_half {n x x' y : Int} (hy : 0 < y) (h : SqInv n x y) (hlo : x' * x' ≤ n) (hhi : n < (x' + y) * (x' + y)) : SqInv n x' (y / 2) := by
  refine ⟨hlo, ?_⟩
  rcases h.st with ⟨h1, _⟩ | ⟨j, hj, _⟩
  · omega
  · cases j with
    | zero => left; simp at hj; subst hj; exact ⟨by decide, hhi⟩
    | succ j =>
      right
      refine ⟨j, ?_, ?_⟩
      · rw [hj, Nat.pow_succ]; omega
      · have : 2 * (y / 2) = y := by rw [hj, Nat.pow_succ]; omega
        rw [this]; exact hhi
theorem sqInv_no {n x y : Int} (hy : 0 < y) (h : SqInv n x y) (hno : ¬ (x + y) * (x + y) ≤ n) : SqInv n x (y / 2) := sqInv_half hy h h.lo (by omega)
theorem sqInv_yes {n x y : Int} (hy : 0 < y) (h : SqInv n x y) (hyes : (x + y) * (x + y) ≤ n) : SqInv n (x + y) (y / 2) := by
  refine sqInv_half hy h hyes ?_
  rcases h.st with ⟨h1, _⟩ | ⟨j, _, h2⟩
  · omega
  · have : x + y + y = x + 2 * y := by omega
    rw [this]; exact h2
theorem sqInv_end {n x : Int} (h : SqInv n x 0) (hx : 0 ≤ x) : IsRoot x n := by
  refine ⟨hx, h.lo, ?_⟩
  rcases h.st with ⟨_, h2⟩ | ⟨j, hj, _⟩
  · exact h2
  · have := Nat.two_pow_pos j
    omega
theorem sqB_eq {n x : Int} (h : IsRoot x n) (hn : 0 ≤ n) : (x * x == n) = sqB n := by
  unfold sqB; rw [root_unique h (isqrt_root hn)]
theorem isqrt_le {d K : Int} (h0 : 0 ≤ d) (hK : 0 ≤ K) (h : d < (K + 1) * (K + 1)) : isqrt d ≤ K := by
  have := (isqrt_root h0).lo
  have := lt_of_sq (show 0 ≤ K + 1 by omega) (Int.lt_of_le_of_lt this h)
  omega
theorem isqrt_bd {d : Int} (h0 : 0 ≤ d) (h1 : d ≤ 5000000000000) : 0 ≤ isqrt d ∧ isqrt d ≤ 2236068 := ⟨(isqrt_root h0).nn, isqrt_le h0 (by omega) (by omega)⟩
end Go.Proofs.Ytjnkogkpdbgohaa
/- Plain facts: definite forms are reduced by steps. -/
namespace Go.Proofs.Ytjnkogkpdbgohaa
structure M4 where
  p : Int
  q : Int
  r : Int
  s : Int
  deriving DecidableEq
structure RS where
  f : F3
  m : M4
def stepM (f : F3) : M4 := if inB f.y (-f.x + 1) f.x = true then ⟨0, -1, 1, 0⟩ else ⟨1, (-f.x - f.y) / (2 * f.x) + 1, 0, 1⟩
def mulM (m n : M4) : M4 := ⟨m.p * n.p + m.q * n.r, m.p * n.q + m.q * n.s, m.r * n.p + m.s * n.r, m.r * n.q + m.s * n.s⟩
def stepR (c : RS) : RS := ⟨madeForm c.f.x c.f.y c.f.z (stepM c.f).p (stepM c.f).q (stepM c.f).r (stepM c.f).s, mulM c.m (stepM c.f)⟩
def reduceN : Nat → RS → RS
  | 0, c => c
  | k + 1, c => if redB c.f.x c.f.y c.f.z = true then c else reduceN k (stepR c)
theorem reduceN_done {k : Nat} {c : RS} (h : redB c.f.x c.f.y c.f.z = true) : reduceN k c = c := by
  cases k with
  | zero => rfl
  | succ k => unfold reduceN; rw [if_pos h]
theorem reduceN_step {k : Nat} {c : RS} (h : redB c.f.x c.f.y c.f.z = false) : reduceN (k + 1) c = reduceN k (stepR c) := by
  show (if redB c.f.x c.f.y c.f.z = true then c else reduceN k (stepR c)) = _
  rw [h]; simp
def meas (f : F3) : Int := 4 * f.x + (if inB f.y (-f.x + 1) f.x = true then (if f.y < 0 then 2 else 1) else 3)
/-- What holds of a definite form on its way, and of its matrix; a, b, c: the form at the start. -/
structure DefInv (a b c : Int) (t : RS) : Prop where
  sm : Small t.f.x t.f.y t.f.z
  x0 : 0 < t.f.x
  z0 : 0 < t.f.z
  d : disc t.f.x t.f.y t.f.z < 0
  dd : disc t.f.x t.f.y t.f.z = disc a b c
  f1 : formAt a b c t.m.p t.m.r = t.f.x
  f2 : formMid a b c t.m.p t.m.q t.m.r t.m.s = t.f.y
  f3 : formAt a b c t.m.q t.m.s = t.f.z
  det : t.m.p * t.m.s - t.m.q * t.m.r = 1
theorem pos_c {a b c : Int} (h : disc a b c < 0) (ha : 0 < a) : 0 < c := by
  refine Int.not_le.1 fun hc => ?_
  have h1 : 4 * a * c ≤ 0 := by
    have := Int.mul_nonpos_of_nonneg_of_nonpos (show 0 ≤ 4 * a by omega) hc
    exact this
  have h2 := sq_nn b
  unfold disc at h
  omega
theorem inv_start {a b c : Int} (h : Small a b c) (hd : disc a b c < 0) (ha : 0 < a) : DefInv a b c ⟨⟨a, b, c⟩, ⟨1, 0, 0, 1⟩⟩ := by
  refine ⟨h, ha, pos_c hd ha, hd, rfl, ?_, ?_, ?_, ?_⟩ <;> simp [formAt, formMid]
/-- A value of a definite form bounds what it is taken at. -/
theorem at_sq {a b c x y v K : Int} (hd : disc a b c ≤ -3) (hv : formAt a b c x y = v) (ha : 0 < a) (ha1 : a ≤ 1000000) (hv1 : v ≤ 1000000) (hK : K = 1154701) : -K ≤ y ∧ y ≤ K := by
  have e : 4 * a * v = (2 * a * x + b * y) * (2 * a * x + b * y) - disc a b c * (y * y) := by
    rw [← hv]; unfold formAt disc; grind
  have h1 := sq_nn (2 * a * x + b * y)
  have h2 := sq_nn y
  have hv0 : 0 ≤ v ∨ v < 0 := by omega
  have h3 : 3 * (y * y) ≤ 4 * a * v := by
    have := Int.mul_le_mul_of_nonneg_right (show 3 ≤ -disc a b c by omega) h2
    rw [Int.neg_mul] at this
    omega
  have h4 : 4 * a * v ≤ 4000000000000 := by
    rcases hv0 with h | h
    · have := Int.mul_le_mul (show 4 * a ≤ 4000000 by omega) hv1 h (by omega)
      omega
    · have := Int.mul_nonpos_of_nonneg_of_nonpos (show 0 ≤ 4 * a by omega) (show v ≤ 0 by omega)
      omega
  subst hK
  constructor
  · refine Int.not_lt.1 fun hh => ?_
    have := mul_le_self (show (0 : Int) ≤ 1154702 by omega) (show (1154702 : Int) ≤ -y by omega)
    rw [Int.neg_mul_neg] at this
    omega
  · refine Int.not_lt.1 fun hh => ?_
    have := mul_le_self (show (0 : Int) ≤ 1154702 by omega) (show (1154702 : Int) ≤ y by omega)
    omega
theorem at_flip (a b c x y : Int) : formAt a b c x y = formAt c b a y x := by unfold formAt; grind
theorem disc_flip (a b c : Int) : disc a b c = disc c b a := by unfold disc; grind
theorem disc_mod {a b c : Int} (h : disc a b c < 0) : disc a b c ≤ -3 := by
  have h1 : disc a b c = b * b - 4 * (a * c) := by unfold disc; grind
  have h2 : b * b % 4 = 0 ∨ b * b % 4 = 1 := by
    rcases Int.emod_two_eq b with hb | hb
    · left
      have : b = 2 * (b / 2) := by omega
      rw [this, show 2 * (b / 2) * (2 * (b / 2)) = 4 * ((b / 2) * (b / 2)) by grind]; omega
    · right
      have : b = 2 * (b / 2) + 1 := by omega
      rw [this, show (2 * (b / 2) + 1) * (2 * (b / 2) + 1) = 4 * ((b / 2) * (b / 2) + b / 2) + 1 by grind]; omega
  omega
/-- The matrix's numbers stay small. -/
theorem inv_bd {a b c : Int} {t : RS} (h : DefInv a b c t) (hs : Small a b c) (ha : 0 < a) :
    (-1154701 ≤ t.m.p ∧ t.m.p ≤ 1154701) ∧ (-1154701 ≤ t.m.q ∧ t.m.q ≤ 1154701) ∧ (-1154701 ≤ t.m.r ∧ t.m.r ≤ 1154701) ∧ (-1154701 ≤ t.m.s ∧ t.m.s ≤ 1154701) := by
  have hd : disc a b c ≤ -3 := by rw [← h.dd]; exact disc_mod h.d
  have hc : 0 < c := pos_c (show disc a b c < 0 by omega) ha
  have hd' : disc c b a ≤ -3 := by rw [← disc_flip]; exact hd
  obtain ⟨_, a1, _, _, _, c1⟩ := hs
  obtain ⟨_, x1, _, _, _, z1⟩ := h.sm
  exact ⟨at_sq hd' (by rw [← at_flip]; exact h.f1) hc c1 x1 rfl, at_sq hd' (by rw [← at_flip]; exact h.f3) hc c1 z1 rfl, at_sq hd h.f1 ha a1 x1 rfl, at_sq hd h.f3 ha a1 z1 rfl⟩
theorem disc_made (a b c p q r s : Int) : disc (madeForm a b c p q r s).x (madeForm a b c p q r s).y (madeForm a b c p q r s).z = disc a b c * ((p * s - q * r) * (p * s - q * r)) := by
  unfold madeForm disc formAt formMid; grind
theorem made_mul (a b c : Int) (m n : M4) : madeForm (madeForm a b c m.p m.q m.r m.s).x (madeForm a b c m.p m.q m.r m.s).y (madeForm a b c m.p m.q m.r m.s).z n.p n.q n.r n.s = madeForm a b c (mulM m n).p (mulM m n).q (mulM m n).r (mulM m n).s := by
  unfold madeForm mulM formAt formMid
  simp only [F3.mk.injEq]
  refine ⟨by grind, by grind, by grind⟩
theorem det_mul (m n : M4) : (mulM m n).p * (mulM m n).s - (mulM m n).q * (mulM m n).r = (m.p * m.s - m.q * m.r) * (n.p * n.s - n.q * n.r) := by
  unfold mulM; grind
theorem det_step (f : F3) : (stepM f).p * (stepM f).s - (stepM f).q * (stepM f).r = 1 := by
  unfold stepM; split <;> simp
/-- A definite form that isn't reduced: swapped, or moved by k. -/
theorem step_S {f : F3} (h : inB f.y (-f.x + 1) f.x = true) (m : M4) : stepR ⟨f, m⟩ = ⟨⟨f.z, -f.y, f.x⟩, mulM m ⟨0, -1, 1, 0⟩⟩ := by
  unfold stepR stepM
  rw [if_pos h]
  simp [madeForm, formAt, formMid]
def stepK (f : F3) : Int := (-f.x - f.y) / (2 * f.x) + 1
theorem step_T {f : F3} (h : inB f.y (-f.x + 1) f.x = false) (m : M4) : stepR ⟨f, m⟩ = ⟨⟨f.x, f.y + 2 * f.x * stepK f, formAt f.x f.y f.z (stepK f) 1⟩, mulM m ⟨1, stepK f, 0, 1⟩⟩ := by
  unfold stepR stepM
  rw [if_neg (by rw [h]; simp)]
  simp only [madeForm, RS.mk.injEq, F3.mk.injEq]
  refine ⟨⟨?_, ?_, rfl⟩, rfl⟩
  · unfold formAt; grind
  · unfold formMid stepK; grind
/-- The moved middle number lies in -x + 1 .. x. -/
theorem stepK_in {f : F3} (hx : 0 < f.x) : -f.x < f.y + 2 * f.x * stepK f ∧ f.y + 2 * f.x * stepK f ≤ f.x := by
  have h1 := Int.emod_add_mul_ediv (-f.x - f.y) (2 * f.x)
  have h2 := Int.emod_nonneg (-f.x - f.y) (show 2 * f.x ≠ 0 by omega)
  have h3 := Int.emod_lt_of_pos (-f.x - f.y) (show 0 < 2 * f.x by omega)
  unfold stepK
  have h4 : 2 * f.x * ((-f.x - f.y) / (2 * f.x) + 1) = 2 * f.x * ((-f.x - f.y) / (2 * f.x)) + 2 * f.x := by grind
  omega
theorem stepK_bd {f : F3} (hx : 0 < f.x) (hs : Small f.x f.y f.z) : -1700000 ≤ stepK f ∧ stepK f ≤ 1700000 := by
  obtain ⟨_, a1, b0, b1, _, _⟩ := hs
  have h1 := stepK_in hx
  have h2 : -1000001 ≤ stepK f := by
    refine Int.not_lt.1 fun hh => ?_
    have := Int.mul_le_mul_of_nonneg_left (show stepK f ≤ -1000002 by omega) (show 0 ≤ 2 * f.x by omega)
    omega
  have h3 : stepK f ≤ 1000001 := by
    refine Int.not_lt.1 fun hh => ?_
    have := Int.mul_le_mul_of_nonneg_left (show 1000002 ≤ stepK f by omega) (show 0 ≤ 2 * f.x by omega)
    omega
  omega
theorem inv_step {a b c : Int} {t : RS} (h : DefInv a b c t) : DefInv a b c (stepR t) := by
  obtain ⟨f, m⟩ := t
  obtain ⟨sm, x0, z0, d, dd, f1, f2, f3, det⟩ := h
  simp only at *
  have hmade : madeForm a b c m.p m.q m.r m.s = f := by
    unfold madeForm; rw [f1, f2, f3]
  have hm2 : madeForm a b c (stepR ⟨f, m⟩).m.p (stepR ⟨f, m⟩).m.q (stepR ⟨f, m⟩).m.r (stepR ⟨f, m⟩).m.s = (stepR ⟨f, m⟩).f := by
    have := made_mul a b c m (stepM f)
    rw [hmade] at this
    exact this.symm
  have hdet : (stepR ⟨f, m⟩).m.p * (stepR ⟨f, m⟩).m.s - (stepR ⟨f, m⟩).m.q * (stepR ⟨f, m⟩).m.r = 1 := by
    have := det_mul m (stepM f)
    rw [det, det_step] at this
    simpa [stepR] using this
  have hdisc : disc (stepR ⟨f, m⟩).f.x (stepR ⟨f, m⟩).f.y (stepR ⟨f, m⟩).f.z = disc f.x f.y f.z := by
    have := disc_made f.x f.y f.z (stepM f).p (stepM f).q (stepM f).r (stepM f).s
    rw [det_step] at this
    simpa [stepR] using this
  have hfin : Small (stepR ⟨f, m⟩).f.x (stepR ⟨f, m⟩).f.y (stepR ⟨f, m⟩).f.z ∧ 0 < (stepR ⟨f, m⟩).f.x := by
    cases hi : inB f.y (-f.x + 1) f.x
    · have hk := @stepK_in f x0
      have hno := inB_no.1 hi
      have hT := step_T hi m
      rw [hT] at hdisc ⊢
      simp only at hdisc ⊢
      have hz : 0 < formAt f.x f.y f.z (stepK f) 1 := pos_c (b := f.y + 2 * f.x * stepK f) (a := f.x) (by rw [hdisc]; exact d) x0
      have hle : formAt f.x f.y f.z (stepK f) 1 ≤ f.z := by
        generalize formAt f.x f.y f.z (stepK f) 1 = z' at hdisc hz
        generalize f.y + 2 * f.x * stepK f = y' at hdisc hk
        have h1 : y' * y' ≤ f.y * f.y := by
          rcases Int.le_total 0 y' with h | h <;> rcases Int.le_total 0 f.y with h' | h'
          · exact mul_le_self h (by omega)
          · have := mul_le_self h (show y' ≤ -f.y by omega); rwa [Int.neg_mul_neg] at this
          · have := mul_le_self (show 0 ≤ -y' by omega) (show -y' ≤ f.y by omega); rwa [Int.neg_mul_neg] at this
          · have := mul_le_self (show 0 ≤ -y' by omega) (show -y' ≤ -f.y by omega); rwa [Int.neg_mul_neg, Int.neg_mul_neg] at this
        unfold disc at hdisc
        have h2 : 4 * f.x * z' ≤ 4 * f.x * f.z := by omega
        exact Int.le_of_mul_le_mul_left h2 (by omega)
      obtain ⟨a0, a1, b0, b1, c0, c1⟩ := sm
      exact ⟨⟨by omega, a1, by omega, by omega, by omega, by omega⟩, x0⟩
    · rw [step_S hi m]
      obtain ⟨a0, a1, b0, b1, c0, c1⟩ := sm
      exact ⟨⟨c0, c1, by simp only; omega, by simp only; omega, a0, a1⟩, z0⟩
  refine ⟨hfin.1, hfin.2, pos_c (by rw [hdisc]; exact d) hfin.2, by rw [hdisc]; exact d, by rw [hdisc]; exact dd, ?_, ?_, ?_, hdet⟩
  · exact congrArg F3.x hm2
  · exact congrArg F3.y hm2
  · exact congrArg F3.z hm2
theorem meas_step {a b c : Int} {t : RS} (h : DefInv a b c t) (hr : redB t.f.x t.f.y t.f.z = false) : meas (stepR t).f < meas t.f := by
  obtain ⟨f, m⟩ := t
  obtain ⟨sm, x0, z0, d, -, -, -, -, -⟩ := h
  simp only at *
  cases hi : inB f.y (-f.x + 1) f.x
  · have hk := @stepK_in f x0
    rw [step_T hi m]
    have hi2 : inB (f.y + 2 * f.x * stepK f) (-f.x + 1) f.x = true := inB_iff.2 (by omega)
    unfold meas
    simp only [hi, hi2]
    simp only [if_true, Bool.false_eq_true, if_false]
    split <;> omega
  · have hy := inB_iff.1 hi
    rw [step_S hi m]
    unfold redB at hr
    rw [if_pos ⟨d, x0⟩] at hr
    simp [redDef] at hr
    unfold meas
    simp only [hi, if_true]
    by_cases hxz : f.z < f.x
    · have : ∀ u : Int, u ≤ 3 → 4 * f.z + u < 4 * f.x + 1 := by intro u hu; omega
      have h1 := this (if inB (-f.y) (-f.z + 1) f.z = true then if -f.y < 0 then 2 else 1 else 3) (by split <;> (try split) <;> omega)
      split <;> omega
    · have hr2 := hr (by omega) (by omega) (by omega)
      have hyn : f.y < 0 := by omega
      have hxe : f.x = f.z := by
        have := hr2.2
        by_cases e : -f.y = f.x
        · omega
        · exact this e
      have hi2 : inB (-f.y) (-f.z + 1) f.z = true := inB_iff.2 (by omega)
      simp only [hi2, if_true]
      rw [if_neg (by omega), if_pos hyn]
      omega
theorem meas_pos {a b c : Int} {t : RS} (h : DefInv a b c t) : 0 ≤ meas t.f := by
  have := h.x0
  unfold meas
  split <;> (try split) <;> omega
/-- The reduced form and its matrix. -/
def reduceOf (a b c : Int) : RS := reduceN (meas ⟨a, b, c⟩).toNat ⟨⟨a, b, c⟩, ⟨1, 0, 0, 1⟩⟩
end Go.Proofs.Ytjnkogkpdbgohaa
/- Plain: normal pairs are normal; pairs stay pairs. -/
namespace Go.Proofs.Ytjnkogkpdbgohaa
theorem pairB_iff {n c d : Int} : isPairB n c d = true ↔ ∀ g : Nat, (g : Int) ∣ c → (g : Int) ∣ d → (g : Int) ∣ n → g = 1 := by
  unfold isPairB
  rw [beq_iff_eq]
  constructor
  · intro h g h1 h2 h3
    have h4 : g ∣ Int.gcd (Int.gcd c d : Int) n := Int.dvd_gcd (Int.natCast_dvd_natCast.2 (Int.dvd_gcd h1 h2)) h3
    have h5 : Int.gcd (Int.gcd c d : Int) n = 1 := by exact_mod_cast h
    rw [h5] at h4
    exact Nat.dvd_one.1 h4
  · intro h
    have h1 := Int.gcd_dvd_left (Int.gcd c d : Int) n
    have h2 := Int.gcd_dvd_right (Int.gcd c d : Int) n
    have := h (Int.gcd (Int.gcd c d : Int) n) (Int.dvd_trans h1 (Int.gcd_dvd_left c d)) (Int.dvd_trans h1 (Int.gcd_dvd_right c d)) h2
    rw [this]; rfl
theorem dvd_mod {g x n : Int} (hn : g ∣ n) (h : g ∣ x % n) : g ∣ x := by
  have e := Int.mul_ediv_add_emod x n
  rw [← e]
  exact Int.dvd_add (Int.dvd_trans hn (Int.dvd_mul_right _ _)) h
theorem pair_mod {n c d c' d' : Int} (h : isPairB n c d = true) (hh : ∀ g : Nat, (g : Int) ∣ c' → (g : Int) ∣ d' → (g : Int) ∣ n → (g : Int) ∣ c ∧ (g : Int) ∣ d) : isPairB n (c' % n) (d' % n) = true := by
  rw [pairB_iff] at h ⊢
  intro g h1 h2 h3
  obtain ⟨h4, h5⟩ := hh g (dvd_mod h3 h1) (dvd_mod h3 h2) h3
  exact h g h4 h5 h3
theorem pair_S {n c d : Int} (h : isPairB n c d = true) : isPairB n (d % n) (-c % n) = true :=
  pair_mod h fun _ h1 h2 _ => ⟨(Int.dvd_neg).1 h2, h1⟩
theorem pair_U {n c d : Int} (h : isPairB n c d = true) : isPairB n ((c + d) % n) (-c % n) = true :=
  pair_mod h fun _ h1 h2 _ => by
    have h3 := (Int.dvd_neg).1 h2
    exact ⟨h3, (Int.dvd_add_right h3).1 h1⟩
theorem pair_T {n c d : Int} (h : isPairB n c d = true) : isPairB n (c % n) ((c + d) % n) = true :=
  pair_mod h fun _ h1 h2 _ => ⟨h1, (Int.dvd_add_right h1).1 h2⟩
theorem dvd_of_gcd {g : Nat} {u c : Int} (h : (g : Int) ∣ u * c) (hg : Int.gcd (g : Int) u = 1) : (g : Int) ∣ c := by
  have h1 := Int.natAbs_dvd_natAbs.2 h
  rw [Int.natAbs_natCast, Int.natAbs_mul] at h1
  have hc : Nat.Coprime g u.natAbs := hg
  exact Int.natAbs_dvd_natAbs.1 (by rw [Int.natAbs_natCast]; exact hc.dvd_of_dvd_mul_left h1)
theorem pair_unit {n c d u : Int} (hu : Int.gcd u n = 1) (h : isPairB n c d = true) : isPairB n (u * c % n) (u * d % n) = true :=
  pair_mod h fun g h1 h2 h3 => by
    have hg : Int.gcd (g : Int) u = 1 := by
      refine Nat.dvd_one.1 ?_
      rw [← hu]
      exact Int.dvd_gcd (Int.gcd_dvd_right _ _) (Int.dvd_trans (Int.gcd_dvd_left _ _) h3)
    exact ⟨dvd_of_gcd h1 hg, dvd_of_gcd h2 hg⟩
/-- Rows of matrices are pairs. -/
theorem pair_det {n a b c d : Int} (h : a * d - b * c = 1) : isPairB n (c % n) (d % n) = true := by
  rw [pairB_iff]
  intro g h1 h2 h3
  have hc := dvd_mod h3 h1
  have hd := dvd_mod h3 h2
  have : (g : Int) ∣ 1 := by
    rw [← h]
    exact Int.dvd_sub (Int.dvd_trans hd (Int.dvd_mul_left _ _)) (Int.dvd_trans hc (Int.dvd_mul_left _ _))
  exact Nat.dvd_one.1 (by exact_mod_cast this)
theorem lexB_iff {a b x y : Int} : lexB a b x y = true ↔ a < x ∨ (a = x ∧ b < y) := by simp [lexB]
theorem lexB_no {a b x y : Int} : lexB a b x y = false ↔ ¬ (a < x ∨ (a = x ∧ b < y)) := by rw [← lexB_iff]; simp
def NotLess (c d : Int) (p : P2) : Prop := lexB c d p.x p.y = false
theorem nrm_self {n c d : Int} (k : Nat) : NotLess c d (nrm n c d k) := by
  induction k with
  | zero => unfold NotLess; rw [lexB_no]; simp only [nrm]; omega
  | succ k ih =>
    unfold nrm
    split
    · rename_i h
      simp only [Bool.and_eq_true, lexB_iff] at h
      unfold NotLess at *
      rw [lexB_no] at *
      simp only
      have := h.2
      omega
    · exact ih
theorem nrm_min {n c d : Int} (k j : Nat) (hj : j < k) (hg : (Int.gcd ((j : Int) + 1) n : Int) = 1) : NotLess (((j : Int) + 1) * c % n) (((j : Int) + 1) * d % n) (nrm n c d k) := by
  induction k with
  | zero => omega
  | succ k ih =>
    have hn : nrm n c d (k + 1) = nrm n c d (k + 1) := rfl
    by_cases hjk : j = k
    · subst hjk
      unfold nrm
      split
      · unfold NotLess; rw [lexB_no]; simp only; omega
      · rename_i h
        unfold NotLess
        simp only [hg, beq_self_eq_true, Bool.true_and] at h
        simpa using h
    · have ih := ih (by omega)
      unfold nrm
      split
      · rename_i h
        simp only [Bool.and_eq_true, lexB_iff] at h
        unfold NotLess at *
        rw [lexB_no] at *
        simp only
        have := h.2
        omega
      · exact ih
theorem nrm_form {n c d : Int} (k : Nat) : nrm n c d k = ⟨c, d⟩ ∨ ∃ j : Nat, j < k ∧ (Int.gcd ((j : Int) + 1) n : Int) = 1 ∧ nrm n c d k = ⟨((j : Int) + 1) * c % n, ((j : Int) + 1) * d % n⟩ := by
  induction k with
  | zero => exact .inl rfl
  | succ k ih =>
    by_cases h : ((Int.gcd ((k : Int) + 1) n : Int) == 1 && lexB ((k + 1) * c % n) ((k + 1) * d % n) (nrm n c d k).x (nrm n c d k).y) = true
    · right
      refine ⟨k, by omega, ?_, by unfold nrm; rw [if_pos h]⟩
      simp only [Bool.and_eq_true, beq_iff_eq] at h
      exact h.1
    · have e : nrm n c d (k + 1) = nrm n c d k := by
        show (if _ then _ else _) = _
        rw [if_neg h]
      rw [e]
      rcases ih with h1 | ⟨j, h1, h2, h3⟩
      · exact .inl h1
      · exact .inr ⟨j, by omega, h2, h3⟩
theorem normal_pair {n c d : Int} (h : isPairB n c d = true) : isPairB n (normal n c d).x (normal n c d).y = true := by
  rcases nrm_form (n := n) (c := c) (d := d) (n - 1).toNat with e | ⟨j, _, hg, e⟩
  · unfold normal; rw [e]; exact h
  · unfold normal; rw [e]; exact pair_unit (by exact_mod_cast hg) h
theorem mul_mod_mod (v u c n : Int) : v * (u * c % n) % n = (v * u % n) * c % n := by
  rw [Int.mul_emod, Int.emod_emod_of_dvd _ (Int.dvd_refl n), ← Int.mul_emod, ← Int.mul_assoc]
  rw [Int.mul_emod (v * u % n) c, Int.emod_emod_of_dvd _ (Int.dvd_refl n), ← Int.mul_emod]
theorem gcd_mul_mod {u v n : Int} (hu : Int.gcd u n = 1) (hv : Int.gcd v n = 1) : Int.gcd (v * u % n) n = 1 := by
  refine Nat.dvd_one.1 ?_
  have h2 := Int.gcd_dvd_right (v * u % n) n
  have h1 := dvd_mod h2 (Int.gcd_dvd_left (v * u % n) n)
  generalize Int.gcd (v * u % n) n = g at *
  have hg : Int.gcd (g : Int) v = 1 := by
    refine Nat.dvd_one.1 ?_
    rw [← hv]
    exact Int.dvd_gcd (Int.gcd_dvd_right _ _) (Int.dvd_trans (Int.gcd_dvd_left _ _) h2)
  have h3 := dvd_of_gcd h1 hg
  rw [← hu]
  exact Int.dvd_gcd h3 h2
theorem normal_idem {n c d : Int} (hn : 0 < n) (hc : 0 ≤ c ∧ c < n) (hd : 0 ≤ d ∧ d < n) : normal n (normal n c d).x (normal n c d).y = normal n c d := by
  obtain ⟨⟨x0, x1⟩, y0, y1⟩ := normal_bd hn hc hd
  by_cases hn1 : n = 1
  · obtain ⟨⟨u0, u1⟩, v0, v1⟩ := normal_bd hn ⟨x0, x1⟩ ⟨y0, y1⟩
    generalize normal n (normal n c d).x (normal n c d).y = p at *
    generalize normal n c d = q at *
    obtain ⟨a, b⟩ := p
    obtain ⟨a', b'⟩ := q
    simp only at *
    rw [show a = a' by omega, show b = b' by omega]
  · have hself := nrm_self (n := n) (c := (normal n c d).x) (d := (normal n c d).y) (n - 1).toNat
    rcases nrm_form (n := n) (c := (normal n c d).x) (d := (normal n c d).y) (n - 1).toNat with e | ⟨j, hj, hg, e⟩
    · exact e
    · have key : ∃ k : Nat, k < (n - 1).toNat ∧ (Int.gcd ((k : Int) + 1) n : Int) = 1 ∧ ((j : Int) + 1) * (normal n c d).x % n = ((k : Int) + 1) * c % n ∧ ((j : Int) + 1) * (normal n c d).y % n = ((k : Int) + 1) * d % n := by
        rcases nrm_form (n := n) (c := c) (d := d) (n - 1).toNat with e2 | ⟨i, hi, hg2, e2⟩
        · exact ⟨j, hj, hg, by unfold normal; rw [e2], by unfold normal; rw [e2]⟩
        · have hgg := gcd_mul_mod (u := (i : Int) + 1) (v := (j : Int) + 1) (n := n) (by exact_mod_cast hg2) (by exact_mod_cast hg)
          have w0 := Int.emod_nonneg (((j : Int) + 1) * ((i : Int) + 1)) (show n ≠ 0 by omega)
          have w1 := Int.emod_lt_of_pos (((j : Int) + 1) * ((i : Int) + 1)) hn
          have e3 := mul_mod_mod ((j : Int) + 1) ((i : Int) + 1) c n
          have e4 := mul_mod_mod ((j : Int) + 1) ((i : Int) + 1) d n
          generalize ((j : Int) + 1) * ((i : Int) + 1) % n = W at *
          have hW : W ≠ 0 := fun h0 => by rw [h0, Int.gcd_zero_left] at hgg; omega
          refine ⟨(W - 1).toNat, by omega, ?_, ?_, ?_⟩
          · rw [show (((W - 1).toNat : Nat) : Int) + 1 = W by omega, hgg]; rfl
          · rw [show (((W - 1).toNat : Nat) : Int) + 1 = W by omega]; unfold normal; rw [e2]; exact e3
          · rw [show (((W - 1).toNat : Nat) : Int) + 1 = W by omega]; unfold normal; rw [e2]; exact e4
      obtain ⟨k, hk, hgk, e5, e6⟩ := key
      have hmin := nrm_min (n := n) (c := c) (d := d) (n - 1).toNat k hk hgk
      have e' : normal n (normal n c d).x (normal n c d).y = ⟨((k : Int) + 1) * c % n, ((k : Int) + 1) * d % n⟩ := by
        show nrm n _ _ _ = _
        rw [e, e5, e6]
      rw [e']
      have hself' : NotLess (normal n c d).x (normal n c d).y ⟨((k : Int) + 1) * c % n, ((k : Int) + 1) * d % n⟩ := by
        have : nrm n (normal n c d).x (normal n c d).y (n - 1).toNat = _ := e'
        rw [this] at hself; exact hself
      have hmin' : NotLess (((k : Int) + 1) * c % n) (((k : Int) + 1) * d % n) (normal n c d) := hmin
      generalize ((k : Int) + 1) * c % n = A at *
      generalize ((k : Int) + 1) * d % n = B at *
      generalize normal n c d = q at *
      obtain ⟨x, y⟩ := q
      unfold NotLess at hself' hmin'
      rw [lexB_no] at hself' hmin'
      simp only at hself' hmin'
      rw [show A = x by omega, show B = y by omega]
/-- The normal pair of a pair is in the line. -/
theorem normal_in {n c d : Int} (hn : 0 < n) (hc : 0 ≤ c ∧ c < n) (hd : 0 ≤ d ∧ d < n) (h : isPairB n c d = true) : normal n c d ∈ lineL n := by
  rw [lineL_mem hn]
  obtain ⟨⟨x0, x1⟩, y0, y1⟩ := normal_bd hn hc hd
  exact ⟨x0, x1, y0, y1, normal_pair h, normal_idem hn hc hd⟩
theorem coset_in {n c d : Int} (hn : 0 < n) (h : isPairB n (c % n) (d % n) = true) : 0 ≤ cosetI n (lineL n) c d ∧ cosetI n (lineL n) c d < (lineL n).length := by
  have := findI_bd _ _ 0 (normal_in hn ⟨Int.emod_nonneg c (by omega), Int.emod_lt_of_pos c hn⟩ ⟨Int.emod_nonneg d (by omega), Int.emod_lt_of_pos d hn⟩ h)
  unfold cosetI; omega
end Go.Proofs.Ytjnkogkpdbgohaa
/- Plain: coset matrices. -/
namespace Go.Proofs.Ytjnkogkpdbgohaa
/-- The first t from some number on for which p holds, within some steps. -/
def firstN (p : Nat → Bool) : Nat → Nat → Nat
  | 0, t => t
  | f + 1, t => if p t = true then t else firstN p f (t + 1)
theorem firstN_ok {p : Nat → Bool} : ∀ (f t k : Nat), t ≤ k → k < t + f → p k = true → p (firstN p f t) = true ∧ t ≤ firstN p f t ∧ firstN p f t ≤ k ∧ ∀ j, t ≤ j → j < firstN p f t → p j = false
  | 0, t, k, h1, h2, _ => by omega
  | f + 1, t, k, h1, h2, h3 => by
    unfold firstN
    split
    · rename_i h; exact ⟨h, Nat.le_refl _, h1, fun j hj hj2 => by omega⟩
    · rename_i h
      have hne : t ≠ k := fun e => h (by rw [e]; exact h3)
      obtain ⟨a, b, c, d⟩ := firstN_ok (p := p) f (t + 1) k (by omega) (by omega) h3
      refine ⟨a, by omega, c, fun j hj hj2 => ?_⟩
      by_cases e : j = t
      · subst e; simpa using h
      · exact d j (by omega) hj2
def copT (n c d t : Nat) : Bool := Nat.gcd c (d + t * n) == 1
def invA (c d a : Nat) : Bool := (a * d) % c == 1 % c
def copAll (n : Nat) : Bool := (List.range n).all fun c => (List.range n).all fun d => c == 0 || (Nat.gcd (Nat.gcd c d) n != 1 || copT n c d (firstN (copT n c d) 60 0))
def invAll (c : Nat) : Bool := (List.range c).all fun r => Nat.gcd c r != 1 || invA c r (firstN (invA c r) c 0)
set_option maxRecDepth 100000 in
theorem copAll_all : (List.range 61).all copAll = true := by decide +kernel
set_option maxRecDepth 100000 in
theorem invAll_all : (List.range 61).all invAll = true := by decide +kernel
theorem firstN_le {p : Nat → Bool} : ∀ (f t : Nat), t ≤ firstN p f t ∧ firstN p f t ≤ t + f
  | 0, t => by simp [firstN]
  | f + 1, t => by
    unfold firstN
    split
    · omega
    · have := firstN_le (p := p) f (t + 1); omega
theorem firstN_before {p : Nat → Bool} : ∀ (f t j : Nat), t ≤ j → j < firstN p f t → p j = false
  | 0, t, j, h1, h2 => by simp [firstN] at h2; omega
  | f + 1, t, j, h1, h2 => by
    unfold firstN at h2
    split at h2
    · omega
    · rename_i h
      by_cases e : j = t
      · subst e; simpa using h
      · exact firstN_before f (t + 1) j (by omega) h2
structure CopT (n c d : Nat) : Prop where
  hit : Nat.gcd c (d + firstN (copT n c d) 60 0 * n) = 1
  le : firstN (copT n c d) 60 0 ≤ 60
  before : ∀ t, t < firstN (copT n c d) 60 0 → Nat.gcd c (d + t * n) ≠ 1
theorem cop_of {n c d : Nat} (hn : n ≤ 60) (c0 : 0 < c) (hc : c < n) (hd : d < n) (h : Nat.gcd (Nat.gcd c d) n = 1) : CopT n c d := by
  have h1 := List.all_eq_true.1 copAll_all n (by simp; omega)
  have h2 := List.all_eq_true.1 h1 c (by simpa using hc)
  have h3 := List.all_eq_true.1 h2 d (by simpa using hd)
  have e1 : (c == 0) = false := by simp; omega
  have e2 : (Nat.gcd (Nat.gcd c d) n != 1) = false := by simp [h]
  rw [e1, e2, Bool.false_or, Bool.false_or] at h3
  refine ⟨by simpa [copT] using h3, by have := (firstN_le (p := copT n c d) 60 0).2; omega, fun t ht => ?_⟩
  have := firstN_before (p := copT n c d) 60 0 t (Nat.zero_le _) ht
  simpa [copT] using this
structure InvA (c d : Nat) : Prop where
  hit : (firstN (invA c (d % c)) c 0 * d) % c = 1 % c
  lt : firstN (invA c (d % c)) c 0 < c
  before : ∀ a, a < firstN (invA c (d % c)) c 0 → (a * d) % c ≠ 1 % c
theorem inv_of {c d : Nat} (c0 : 0 < c) (hc : c ≤ 60) (h : Nat.gcd c d = 1) : InvA c d := by
  have hr := Nat.mod_lt d c0
  have hg : Nat.gcd c (d % c) = 1 := by rw [Nat.gcd_comm, ← Nat.gcd_rec]; exact h
  have h1 := List.all_eq_true.1 invAll_all c (by simp; omega)
  have h2 := List.all_eq_true.1 h1 (d % c) (by simpa using hr)
  have e2 : (Nat.gcd c (d % c) != 1) = false := by simp [hg]
  rw [e2, Bool.false_or] at h2
  have e : ∀ a, (a * d) % c = (a * (d % c)) % c := fun a => by rw [Nat.mul_mod a (d % c), Nat.mod_mod, ← Nat.mul_mod]
  have hhit : (firstN (invA c (d % c)) c 0 * d) % c = 1 % c := by rw [e]; simpa [invA] using h2
  refine ⟨hhit, ?_, fun a ha => ?_⟩
  · have hle := (firstN_le (p := invA c (d % c)) c 0).2
    refine Nat.lt_of_le_of_ne (by omega) fun he => ?_
    rw [he, Nat.mul_mod_right] at hhit
    have c1 : c = 1 := by
      refine Nat.le_antisymm (Nat.le_of_not_lt fun hlt => ?_) c0
      rw [Nat.mod_eq_of_lt hlt] at hhit; omega
    subst c1
    have h0 := firstN_before (p := invA 1 (d % 1)) 1 0 0 (Nat.le_refl _) (by omega)
    simp [invA, Nat.mod_one] at h0
  · have := firstN_before (p := invA c (d % c)) c 0 a (Nat.zero_le _) ha
    rw [e]
    simpa [invA] using this
/-- Whether a d - 1 is a multiple of c, in whole numbers. -/
theorem inv_int {a c d : Nat} : (((a : Int) * d - 1).tmod c = 0) ↔ (a * d) % c = 1 % c := by
  rw [← Int.dvd_iff_tmod_eq_zero]
  constructor
  · intro h
    have h2 := Int.emod_emod_of_dvd ((a : Int) * d) (Int.dvd_refl (c : Int))
    have h3 : ((a : Int) * d) % c = 1 % (c : Int) := Int.emod_eq_emod_iff_emod_sub_eq_zero.2 (Int.emod_eq_zero_of_dvd h)
    exact_mod_cast h3
  · intro h
    have h3 : ((a : Int) * d) % c = 1 % (c : Int) := by exact_mod_cast h
    exact Int.dvd_of_emod_eq_zero (Int.emod_eq_emod_iff_emod_sub_eq_zero.1 h3)
structure M4i where
  p : Int
  q : Int
  r : Int
  s : Int
/-- The coset matrix of a normal pair. -/
def cosM (n c d : Nat) : M4i :=
  if c = 0 then ⟨1, 0, 0, 1⟩ else
    let d' := d + firstN (copT n c d) 60 0 * n
    let a := firstN (invA c (d' % c)) c 0
    ⟨a, ((a : Int) * d' - 1).tdiv c, c, d'⟩
end Go.Proofs.Ytjnkogkpdbgohaa
/- Plain: multiples by units have the same normal pair; cosets and matrices. -/
namespace Go.Proofs.Ytjnkogkpdbgohaa
theorem unit_inv {N : Nat} (n0 : 0 < N) (n1 : N ≤ 60) {u : Int} (hu : Int.gcd u N = 1) : ∃ v : Int, Int.gcd v N = 1 ∧ v * u % N = 1 % N := by
  have e : (((u % N).toNat : Nat) : Int) = u % N := Int.toNat_of_nonneg (Int.emod_nonneg u (by omega))
  have hg : Nat.gcd N (u % N).toNat = 1 := by
    refine Nat.dvd_one.1 ?_
    rw [← hu]
    have h1 : ((Nat.gcd N (u % N).toNat : Nat) : Int) ∣ (N : Int) := Int.natCast_dvd_natCast.2 (Nat.gcd_dvd_left _ _)
    have h2 : ((Nat.gcd N (u % N).toNat : Nat) : Int) ∣ u % N := by rw [← e]; exact Int.natCast_dvd_natCast.2 (Nat.gcd_dvd_right _ _)
    exact Int.dvd_gcd (dvd_mod h1 h2) h1
  obtain ⟨h1, -, -⟩ := inv_of n0 n1 hg
  generalize firstN (invA N ((u % N).toNat % N)) N 0 = A at h1
  have hv : (A : Int) * u % N = 1 % N := by
    have h2 : ((A : Int) * ((u % N).toNat : Nat)) % N = 1 % N := by exact_mod_cast h1
    rw [e] at h2
    rw [Int.mul_emod, Int.emod_emod_of_dvd _ (Int.dvd_refl _), ← Int.mul_emod] at h2
    exact h2
  refine ⟨A, ?_, hv⟩
  refine Nat.dvd_one.1 ?_
  have h3 := Int.gcd_dvd_left (A : Int) N
  have h4 := Int.gcd_dvd_right (A : Int) N
  generalize Int.gcd (A : Int) N = g at *
  have h5 : (g : Int) ∣ 1 % (N : Int) := by
    rw [← hv, Int.emod_def]
    exact Int.dvd_sub (Int.dvd_trans h3 (Int.dvd_mul_right _ _)) (Int.dvd_trans h4 (Int.dvd_mul_right _ _))
  exact Int.natCast_dvd_natCast.1 (dvd_mod h4 h5)
theorem unit_mod {n v x : Int} : (v % n) * x % n = v * x % n := by
  rw [Int.mul_emod, Int.emod_emod_of_dvd _ (Int.dvd_refl n), ← Int.mul_emod]
theorem gcd_mod {n v : Int} (h : Int.gcd v n = 1) : Int.gcd (v % n) n = 1 := by
  refine Nat.dvd_one.1 ?_
  rw [← h]
  have h2 := Int.gcd_dvd_right (v % n) n
  exact Int.dvd_gcd (dvd_mod h2 (Int.gcd_dvd_left (v % n) n)) h2
structure Least (n c d : Int) (P : P2) : Prop where
  form : ∃ v : Int, Int.gcd v n = 1 ∧ P = ⟨v * c % n, v * d % n⟩
  min : ∀ v : Int, Int.gcd v n = 1 → NotLess (v * c % n) (v * d % n) P
theorem normal_least {n c d : Int} (hn : 0 < n) (hc : 0 ≤ c ∧ c < n) (hd : 0 ≤ d ∧ d < n) : Least n c d (normal n c d) := by
  constructor
  · rcases nrm_form (n := n) (c := c) (d := d) (n - 1).toNat with e | ⟨j, _, hg, e⟩
    · refine ⟨1, by simp, ?_⟩
      unfold normal
      rw [e, Int.one_mul, Int.one_mul, Int.emod_eq_of_lt hc.1 hc.2, Int.emod_eq_of_lt hd.1 hd.2]
    · exact ⟨(j : Int) + 1, by exact_mod_cast hg, e⟩
  · intro v hv
    by_cases hn1 : n = 1
    · subst hn1
      unfold NotLess
      rw [lexB_no]
      obtain ⟨⟨x0, x1⟩, y0, y1⟩ := normal_bd hn hc hd
      have e1 : v * c % 1 = 0 := Int.emod_one _
      have e2 : v * d % 1 = 0 := Int.emod_one _
      omega
    · have h0 := Int.emod_nonneg v (show n ≠ 0 by omega)
      have h1 := Int.emod_lt_of_pos v hn
      have hg := gcd_mod hv
      have hne : v % n ≠ 0 := fun e => by
        rw [e, Int.gcd_zero_left] at hg
        omega
      have := nrm_min (n := n) (c := c) (d := d) (n - 1).toNat (v % n - 1).toNat (by omega) (by
        rw [show (((v % n - 1).toNat : Nat) : Int) + 1 = v % n by omega]
        exact_mod_cast hg)
      rw [show (((v % n - 1).toNat : Nat) : Int) + 1 = v % n by omega, unit_mod, unit_mod] at this
      exact this
theorem least_uniq {a b x y : Int} (h1 : NotLess a b ⟨x, y⟩) (h2 : NotLess x y ⟨a, b⟩) : (⟨a, b⟩ : P2) = ⟨x, y⟩ := by
  unfold NotLess at *
  rw [lexB_no] at *
  simp only at h1 h2
  have e1 : a = x := by omega
  have e2 : b = y := by omega
  rw [e1, e2]
theorem normal_unit {N : Nat} {c d u : Int} (n0 : 0 < N) (n1 : N ≤ 60) (hc : 0 ≤ c ∧ c < N) (hd : 0 ≤ d ∧ d < N) (hu : Int.gcd u N = 1) : normal N (u * c % N) (u * d % N) = normal N c d := by
  have hn : (0 : Int) < N := by omega
  obtain ⟨⟨v, hv, ev⟩, hmin⟩ := normal_least hn hc hd
  obtain ⟨⟨w, hw, ew⟩, hmin'⟩ := normal_least (n := (N : Int)) (c := u * c % N) (d := u * d % N) hn ⟨Int.emod_nonneg _ (by omega), Int.emod_lt_of_pos _ hn⟩ ⟨Int.emod_nonneg _ (by omega), Int.emod_lt_of_pos _ hn⟩
  obtain ⟨z, hz, ez⟩ := unit_inv n0 n1 hu
  have hA := hmin (w * u % N) (gcd_mul_mod hu hw)
  rw [← mul_mod_mod, ← mul_mod_mod, ev] at hA
  have hB := hmin' (v * z % N) (gcd_mul_mod hz hv)
  have key : ∀ x : Int, (v * z % N) * (u * x % N) % N = v * x % N := fun x => by
    rw [mul_mod_mod, ← mul_mod_mod v z u, ez]
    rw [Int.mul_emod v (1 % (N : Int)), Int.emod_emod_of_dvd _ (Int.dvd_refl _), ← Int.mul_emod, Int.mul_one, unit_mod]
  rw [key, key, ew] at hB
  rw [ev, ew]
  exact least_uniq hA hB
theorem coset_unit {N : Nat} {l : List P2} {c d u : Int} (n0 : 0 < N) (n1 : N ≤ 60) (hu : Int.gcd u N = 1) : cosetI N l (u * c) (u * d) = cosetI N l c d := by
  have hn : (0 : Int) < N := by omega
  have e : ∀ x : Int, u * x % N = u * (x % N) % N := fun x => by rw [Int.mul_emod u (x % N), Int.emod_emod_of_dvd _ (Int.dvd_refl _), ← Int.mul_emod]
  unfold cosetI
  rw [e c, e d, normal_unit n0 n1 ⟨Int.emod_nonneg _ (by omega), Int.emod_lt_of_pos _ hn⟩ ⟨Int.emod_nonneg _ (by omega), Int.emod_lt_of_pos _ hn⟩ hu]
theorem coset_mod {n : Int} {l : List P2} {c d c' d' : Int} (h1 : n ∣ c - c') (h2 : n ∣ d - d') : cosetI n l c d = cosetI n l c' d' := by
  unfold cosetI
  rw [Int.emod_eq_emod_iff_emod_sub_eq_zero.2 (Int.emod_eq_zero_of_dvd h1), Int.emod_eq_emod_iff_emod_sub_eq_zero.2 (Int.emod_eq_zero_of_dvd h2)]
/-- A matrix leads the normal pair's coset just as the pair's. -/
theorem coset_lead {N : Nat} {l : List P2} {c d : Int} (n0 : 0 < N) (n1 : N ≤ 60) (p q r s : Int) :
    cosetI N l ((normal N (c % N) (d % N)).x * p + (normal N (c % N) (d % N)).y * r) ((normal N (c % N) (d % N)).x * q + (normal N (c % N) (d % N)).y * s) = cosetI N l (c * p + d * r) (c * q + d * s) := by
  have hn : (0 : Int) < N := by omega
  obtain ⟨⟨v, hv, ev⟩, -⟩ := normal_least (n := (N : Int)) (c := c % N) (d := d % N) hn ⟨Int.emod_nonneg _ (by omega), Int.emod_lt_of_pos _ hn⟩ ⟨Int.emod_nonneg _ (by omega), Int.emod_lt_of_pos _ hn⟩
  rw [ev]
  simp only
  rw [← coset_unit (c := c * p + d * r) (d := c * q + d * s) n0 n1 hv]
  have key : ∀ x y a b : Int, (N : Int) ∣ (v * (x % N) % N) * a + (v * (y % N) % N) * b - v * (x * a + y * b) := fun x y a b => by
    have e1 := Int.emod_def (v * (x % N)) N
    have e2 := Int.emod_def (v * (y % N)) N
    have e3 := Int.emod_def x N
    have e4 := Int.emod_def y N
    generalize v * (x % N) / N = k1 at *
    generalize v * (y % N) / N = k2 at *
    generalize x / (N : Int) = k3 at *
    generalize y / (N : Int) = k4 at *
    rw [e1, e2, e3, e4]
    exact ⟨-(v * k3 * a) - k1 * a - v * k4 * b - k2 * b, by grind⟩
  exact coset_mod (key _ _ _ _) (key _ _ _ _)
theorem findI_get {p : P2} {l : List P2} (h : p ∈ l) : ∃ k : Nat, ∃ hk : k < l.length, findI p l 0 = k ∧ l[k] = p := by
  have key : ∀ (l : List P2) (s : Int), p ∈ l → ∃ k : Nat, ∃ hk : k < l.length, findI p l s = s + k ∧ l[k] = p := by
    intro l
    induction l with
    | nil => intro s h; simp at h
    | cons q l ih =>
      intro s h
      by_cases e : q = p
      · refine ⟨0, by simp, ?_, by simpa using e⟩
        unfold findI; rw [if_pos e]; simp
      · obtain ⟨k, hk, h1, h2⟩ := ih (s + 1) (by simp at h; rcases h with h | h; exact absurd h.symm e; exact h)
        refine ⟨k + 1, by simp; omega, ?_, by simpa using h2⟩
        unfold findI; rw [if_neg e, h1]; push_cast; omega
  obtain ⟨k, hk, h1, h2⟩ := key l 0 h
  exact ⟨k, hk, by rw [h1]; omega, h2⟩
/-- The place of a pair in the line. -/
theorem coset_get {N : Nat} {c d : Int} (n0 : 0 < N) (h : isPairB N (c % N) (d % N) = true) : ∃ k : Nat, ∃ hk : k < (lineL N).length, cosetI N (lineL N) c d = k ∧ (lineL N)[k] = normal N (c % N) (d % N) := by
  have hn : (0 : Int) < N := by omega
  exact findI_get (normal_in hn ⟨Int.emod_nonneg c (by omega), Int.emod_lt_of_pos c hn⟩ ⟨Int.emod_nonneg d (by omega), Int.emod_lt_of_pos d hn⟩ h)
theorem normal_of_line {N : Nat} {k : Nat} (n0 : 0 < N) (hk : k < (lineL N).length) : normal N ((lineL N)[k].x % N) ((lineL N)[k].y % N) = (lineL N)[k] ∧ isPairB N ((lineL N)[k].x % N) ((lineL N)[k].y % N) = true := by
  have h := (lineL_mem (n := (N : Int)) (by omega)).1 (List.getElem_mem hk)
  rw [Int.emod_eq_of_lt h.c0 h.c1, Int.emod_eq_of_lt h.d0 h.d1]
  exact ⟨h.self, h.pair⟩
theorem findI_self {l : List P2} {k : Nat} (hk : k < l.length) (hnd : l.Nodup) : findI l[k] l 0 = k := by
  obtain ⟨j, hj, h1, h2⟩ := findI_get (List.getElem_mem hk)
  rw [h1]
  have := (List.getElem_inj hnd).1 h2
  rw [this]
theorem lineRow_nodup (n c : Int) (m : Nat) : (lineRow n c m).Nodup := by
  induction m with
  | zero => simp [lineRow]
  | succ m ih =>
    unfold lineRow
    split
    · rw [List.nodup_append]
      refine ⟨ih, by simp, ?_⟩
      intro a ha b hb e
      have := lineRow_mem.1 ha
      simp at hb
      subst e; subst hb
      simp at this
    · simpa using ih
theorem lineTo_nodup (n : Int) (N m : Nat) : (lineTo n N m).Nodup := by
  induction m with
  | zero => simp [lineTo]
  | succ m ih =>
    unfold lineTo
    rw [List.nodup_append]
    refine ⟨ih, lineRow_nodup _ _ _, ?_⟩
    intro a ha b hb e
    have h1 := lineTo_mem.1 ha
    have h2 := lineRow_mem.1 hb
    subst e
    omega
theorem lineL_nodup (n : Int) : (lineL n).Nodup := lineTo_nodup _ _ _
theorem coset_self {N : Nat} {k : Nat} (n0 : 0 < N) (hk : k < (lineL N).length) : cosetI N (lineL N) (lineL N)[k].x (lineL N)[k].y = k := by
  unfold cosetI
  rw [(normal_of_line n0 hk).1]
  exact findI_self hk (lineL_nodup _)
end Go.Proofs.Ytjnkogkpdbgohaa
/- Plain: cycles along a list of places; the numbers of cusps. -/
namespace Go.Proofs.Ytjnkogkpdbgohaa
theorem getD_set_eq {N : List Int} {k i : Nat} {c : Int} (hk : k < N.length) : (N.set k c).getD i 0 = if i = k then c else N.getD i 0 := by
  simp only [List.getD_eq_getElem?_getD, List.getElem?_set]
  by_cases h : k = i
  · subst h; rw [if_pos rfl, if_pos hk, if_pos rfl]; rfl
  · rw [if_neg h, if_neg (fun e => h e.symm)]
/-- How many are not numbered yet. -/
def negs (N : List Int) : Nat := N.countP fun x => decide (x < 0)
theorem negs_set {N : List Int} {k : Nat} {c : Int} (hk : k < N.length) (h : N.getD k 0 < 0) (hc : 0 ≤ c) : negs (N.set k c) + 1 = negs N := by
  unfold negs
  have e : N[k] < 0 := by simpa [List.getD, List.getElem?_eq_getElem hk] using h
  have h0 : 0 < N.countP fun x => decide (x < 0) := List.countP_pos_iff.2 ⟨N[k], List.getElem_mem hk, by simpa using e⟩
  rw [List.countP_set hk, if_pos (by simpa using e), if_neg (by simpa using hc)]
  omega
theorem negs_le (N : List Int) : negs N ≤ N.length := List.countP_le_length
theorem negs_pos {N : List Int} {k : Nat} (hk : k < N.length) (h : N.getD k 0 < 0) : 0 < negs N := by
  have e : N[k] < 0 := by simpa [List.getD, List.getElem?_eq_getElem hk] using h
  exact List.countP_pos_iff.2 ⟨N[k], List.getElem_mem hk, by simpa using e⟩
/-- The place behind k. -/
def pk (p : List Int) (k : Nat) : Nat := (p.getD k 0).toNat
/-- Numbers from k on, along p, up to a numbered one. -/
def chainN (p : List Int) (c : Int) : Nat → List Int → Nat → List Int
  | 0, N, _ => N
  | f + 1, N, k => if N.getD k 0 < 0 then chainN p c f (N.set k c) (pk p k) else N
theorem chainN_stop {p N : List Int} {c : Int} {f k : Nat} (h : ¬ N.getD k 0 < 0) : chainN p c f N k = N := by
  cases f with
  | zero => rfl
  | succ f => unfold chainN; rw [if_neg h]
theorem chainN_go {p N : List Int} {c : Int} {f k : Nat} (h : N.getD k 0 < 0) : chainN p c (f + 1) N k = chainN p c f (N.set k c) (pk p k) := by
  show (if N.getD k 0 < 0 then _ else _) = _
  rw [if_pos h]
structure PIn (p : List Int) : Prop where
  lo : ∀ k, k < p.length → 0 ≤ p.getD k 0
  hi : ∀ k, k < p.length → p.getD k 0 < p.length
theorem PIn.pk_lt {p : List Int} (h : PIn p) {k : Nat} (hk : k < p.length) : pk p k < p.length ∧ p.getD k 0 = (pk p k : Nat) := by
  have h1 := h.lo k hk
  have h2 := h.hi k hk
  unfold pk
  omega
/-- One place along: with a ghost g that is enough. -/
structure ChAt2 (p : List Int) (c : Int) (NF : List Int) (g : Nat) (N : List Int) (k : Nat) (O : List Int) : Prop where
  len : N.length = p.length
  k0 : k < p.length
  fin : chainN p c g N k = NF
  ng : negs N ≤ g
  nd : O.Nodup
  mem : ∀ x : Int, x ∈ O ↔ 0 ≤ x ∧ x < p.length ∧ N.getD x.toNat 0 = c
theorem ChAt2.olen {p N NF O : List Int} {c : Int} {g k : Nat} (h : ChAt2 p c NF g N k O) : O.length ≤ p.length := by
  have h3 : O ⊆ (List.range p.length).map (fun i : Nat => (i : Int)) := fun x hx => by
    have := (h.mem x).1 hx
    refine List.mem_map.2 ⟨x.toNat, by simp; omega, by omega⟩
  simpa using h.nd.length_le_of_subset h3
theorem ChAt2.lt {p N NF O : List Int} {c : Int} {g k : Nat} (h : ChAt2 p c NF g N k O) (hN : N.getD k 0 < 0) (hc : 0 ≤ c) : O.length < p.length := by
  have h3 : ((k : Nat) : Int) :: O ⊆ (List.range p.length).map (fun i : Nat => (i : Int)) := fun x hx => by
    have h0 := h.k0
    rcases List.mem_cons.1 hx with rfl | hx
    · exact List.mem_map.2 ⟨k, by simpa using h0, rfl⟩
    · have := (h.mem x).1 hx
      exact List.mem_map.2 ⟨x.toNat, by simp; omega, by omega⟩
  have h4 : (((k : Nat) : Int) :: O).Nodup := by
    refine List.nodup_cons.2 ⟨fun hm => ?_, h.nd⟩
    have := ((h.mem _).1 hm).2.2
    rw [Int.toNat_natCast] at this
    omega
  have h5 := h4.length_le_of_subset h3
  simp at h5
  omega
theorem ChAt2.next {p N NF O : List Int} {c : Int} {g k : Nat} (h : ChAt2 p c NF g N k O) (hp : PIn p) (hN : N.getD k 0 < 0) (hc : 0 ≤ c) : ∃ g', g = g' + 1 ∧ ChAt2 p c NF g' (N.set k c) (pk p k) (O ++ [(k : Int)]) := by
  obtain ⟨len, k0, fin, ng, nd, mem⟩ := h
  have hkN : k < N.length := by omega
  have hpos := negs_pos hkN hN
  have hset := negs_set hkN hN hc
  obtain ⟨g', rfl⟩ : ∃ g', g = g' + 1 := ⟨g - 1, by omega⟩
  refine ⟨g', rfl, by simpa using len, (hp.pk_lt k0).1, by rw [← fin, chainN_go hN], by omega, ?_, ?_⟩
  · rw [List.nodup_append]
    refine ⟨nd, by simp, ?_⟩
    intro a ha b hb e
    simp at hb
    subst e; subst hb
    have := ((mem _).1 ha).2.2
    rw [Int.toNat_natCast] at this
    omega
  · intro x
    rw [List.mem_append, mem, getD_set_eq hkN]
    simp only [List.mem_singleton]
    constructor
    · rintro (⟨h1, h2, h3⟩ | rfl)
      · refine ⟨h1, h2, ?_⟩
        split
        · rfl
        · exact h3
      · rw [Int.toNat_natCast, if_pos rfl]
        exact ⟨by omega, by omega, rfl⟩
    · rintro ⟨h1, h2, h3⟩
      by_cases e : x.toNat = k
      · right; omega
      · rw [if_neg e] at h3
        exact .inl ⟨h1, h2, h3⟩
theorem ChAt2.stop {p N NF O : List Int} {c : Int} {g k : Nat} (h : ChAt2 p c NF g N k O) (hN : ¬ N.getD k 0 < 0) : NF = N := by rw [← h.fin, chainN_stop hN]
/-- The places with the number c. -/
def idxs (N : List Int) (c : Int) : List Int := ((List.range N.length).filter fun i => N.getD i 0 == c).map fun i : Nat => (i : Int)
theorem idxs_mem {N : List Int} {c x : Int} : x ∈ idxs N c ↔ 0 ≤ x ∧ x < N.length ∧ N.getD x.toNat 0 = c := by
  unfold idxs
  simp only [List.mem_map, List.mem_filter, List.mem_range, beq_iff_eq]
  constructor
  · rintro ⟨i, ⟨h1, h2⟩, rfl⟩
    rw [Int.toNat_natCast]; exact ⟨by omega, by omega, h2⟩
  · rintro ⟨h1, h2, h3⟩
    exact ⟨x.toNat, ⟨by omega, h3⟩, by omega⟩
theorem idxs_sorted (N : List Int) (c : Int) : (idxs N c).Pairwise (· < ·) := by
  unfold idxs
  rw [List.pairwise_map]
  refine List.Pairwise.imp ?_ (List.Pairwise.filter _ List.pairwise_lt_range)
  intro a b h; omega
theorem idxs_len (N : List Int) (c : Int) : (idxs N c).length ≤ N.length := by
  unfold idxs
  rw [List.length_map]
  exact Nat.le_trans (List.length_filter_le _ _) (by simp)
theorem idxs_nodup (N : List Int) (c : Int) : (idxs N c).Nodup := by
  rw [List.nodup_iff_pairwise_ne]
  exact List.Pairwise.imp (fun h e => by omega) (idxs_sorted N c)
/-- Whatever is sorted and holds the places is their list. -/
theorem idxs_uniq {N O S : List Int} {c : Int} (hnd : O.Nodup) (hm : ∀ x : Int, x ∈ O ↔ 0 ≤ x ∧ x < N.length ∧ N.getD x.toNat 0 = c) (hp : S.Perm O) (hs : S.Pairwise (· ≤ ·)) : S = idxs N c := by
  refine List.Perm.eq_of_pairwise (le := (· ≤ ·)) (fun a b _ _ h1 h2 => by omega) hs (List.Pairwise.imp (fun h => by omega) (idxs_sorted N c)) (hp.trans ?_)
  refine (List.perm_ext_iff_of_nodup hnd (idxs_nodup N c)).2 fun x => ?_
  rw [hm, idxs_mem]
theorem chainN_len (p : List Int) (c : Int) : ∀ (f : Nat) (N : List Int) (k : Nat), (chainN p c f N k).length = N.length
  | 0, _, _ => rfl
  | f + 1, N, k => by
    unfold chainN
    split
    · rw [chainN_len p c f]; simp
    · rfl
theorem chainN_get {p : List Int} {c : Int} (hp : PIn p) : ∀ (f : Nat) (N : List Int) (k : Nat), N.length = p.length → k < p.length → ∀ i, i < p.length → (chainN p c f N k).getD i 0 = N.getD i 0 ∨ (N.getD i 0 < 0 ∧ (chainN p c f N k).getD i 0 = c)
  | 0, _, _, _, _, _, _ => .inl rfl
  | f + 1, N, k, hl, hk, i, hi => by
    unfold chainN
    split
    · rename_i hN
      have hkN : k < N.length := by omega
      rcases chainN_get hp f (N.set k c) (pk p k) (by simpa using hl) (hp.pk_lt hk).1 i hi with h | ⟨h1, h2⟩
      · rw [getD_set_eq hkN] at h
        by_cases e : i = k
        · subst e; rw [if_pos rfl] at h; exact .inr ⟨hN, h⟩
        · rw [if_neg e] at h; exact .inl h
      · rw [getD_set_eq hkN] at h1
        by_cases e : i = k
        · subst e; exact .inr ⟨hN, h2⟩
        · rw [if_neg e] at h1; exact .inr ⟨h1, h2⟩
    · exact .inl rfl
/-- The first k places are numbered: the numbers, and how many there are. -/
def cusN (p : List Int) : Nat → List Int × Int
  | 0 => (List.replicate p.length (-1), 0)
  | i + 1 => if (cusN p i).1.getD i 0 < 0 then (chainN p (cusN p i).2 p.length (cusN p i).1 i, (cusN p i).2 + 1) else cusN p i
structure CusInv (p : List Int) (i : Nat) (N : List Int) (c : Int) : Prop where
  len : N.length = p.length
  c0 : 0 ≤ c
  c1 : c ≤ i
  lo : ∀ j, j < p.length → -1 ≤ N.getD j 0
  hi : ∀ j, j < p.length → N.getD j 0 < c
  met : ∀ j, j < p.length → j < i → 0 ≤ N.getD j 0
theorem cusN_go {p : List Int} {i : Nat} (h : (cusN p i).1.getD i 0 < 0) : cusN p (i + 1) = (chainN p (cusN p i).2 p.length (cusN p i).1 i, (cusN p i).2 + 1) := by
  show (if _ then _ else _) = _
  rw [if_pos h]
theorem cusN_no {p : List Int} {i : Nat} (h : ¬ (cusN p i).1.getD i 0 < 0) : cusN p (i + 1) = cusN p i := by
  show (if _ then _ else _) = _
  rw [if_neg h]
theorem chainN_first {p N : List Int} {c : Int} {f k : Nat} (hp : PIn p) (hl : N.length = p.length) (hk : k < p.length) (hN : N.getD k 0 < 0) (_ : 0 ≤ c) : (chainN p c (f + 1) N k).getD k 0 = c := by
  rw [chainN_go hN]
  have hkN : k < N.length := by omega
  have h := chainN_get (c := c) hp f (N.set k c) (pk p k) (by simpa using hl) (hp.pk_lt hk).1 k hk
  rw [getD_set_eq hkN, if_pos rfl] at h
  rcases h with h | ⟨h1, _⟩
  · exact h
  · omega
theorem cusInv {p : List Int} (hp : PIn p) : ∀ i, i ≤ p.length → CusInv p i (cusN p i).1 (cusN p i).2
  | 0, _ => by
    have e : ∀ j, j < p.length → (List.replicate p.length (-1 : Int)).getD j 0 = -1 := fun j hj => by simp [List.getD, hj]
    exact ⟨by simp [cusN], Int.le_refl _, by simp [cusN], fun j hj => by show -1 ≤ (List.replicate p.length (-1 : Int)).getD j 0; rw [e j hj]; omega, fun j hj => by show (List.replicate p.length (-1 : Int)).getD j 0 < 0; rw [e j hj]; omega, fun j _ h => by omega⟩
  | i + 1, hi => by
    obtain ⟨len, c0, c1, lo, hi', met⟩ := cusInv hp i (by omega)
    by_cases hN : (cusN p i).1.getD i 0 < 0
    · rw [cusN_go hN]
      generalize (cusN p i).1 = N at *
      generalize (cusN p i).2 = c at *
      have hg := fun j hj => chainN_get (c := c) hp p.length N i len (by omega) j hj
      have hl0 : 0 < p.length := by omega
      obtain ⟨f, hf⟩ : ∃ f, p.length = f + 1 := ⟨p.length - 1, by omega⟩
      have hfi : (chainN p c p.length N i).getD i 0 = c := by rw [hf]; exact chainN_first hp len (by omega) hN c0
      refine ⟨by rw [chainN_len]; exact len, by simp only; omega, by simp only; push_cast; omega, fun j hj => ?_, fun j hj => ?_, fun j hj hji => ?_⟩
      · simp only
        rcases hg j hj with h | ⟨_, h⟩ <;> rw [h]
        · exact lo j hj
        · omega
      · simp only
        rcases hg j hj with h | ⟨_, h⟩ <;> rw [h]
        · have := hi' j hj; omega
        · omega
      · simp only
        by_cases e : j = i
        · subst e; rw [hfi]; exact c0
        · have hm := met j hj (by omega)
          rcases hg j hj with h | ⟨h1, _⟩
          · rw [h]; exact hm
          · omega
    · rw [cusN_no hN]
      refine ⟨len, c0, by push_cast; omega, lo, hi', fun j hj hji => ?_⟩
      by_cases e : j = i
      · subst e; omega
      · exact met j hj (by omega)
/-- The elder places keep. -/
theorem idxs_old {p N : List Int} {c d : Int} {f k : Nat} (hp : PIn p) (hl : N.length = p.length) (hk : k < p.length) (hd : 0 ≤ d) (hdc : d ≠ c) : idxs (chainN p c f N k) d = idxs N d := by
  unfold idxs
  rw [chainN_len]
  congr 1
  refine List.filter_congr fun i hi => ?_
  simp only [List.mem_range] at hi
  rw [Bool.eq_iff_iff, beq_iff_eq, beq_iff_eq]
  rcases chainN_get (c := c) hp f N k hl hk i (by omega) with h | ⟨h1, h2⟩
  · rw [h]
  · rw [h2]; omega
/-- The rows of the first d numbers. -/
def rowsC (N : List Int) : Nat → List (List Int)
  | 0 => []
  | d + 1 => rowsC N d ++ [idxs N d]
theorem rowsC_len (N : List Int) (d : Nat) : (rowsC N d).length = d := by
  induction d with
  | zero => rfl
  | succ d ih => simp [rowsC, ih]
theorem rowsC_at {N : List Int} {d j : Nat} (h : j < d) : (rowsC N d).getD j [] = idxs N j := by
  induction d with
  | zero => omega
  | succ d ih =>
    unfold rowsC
    by_cases e : j = d
    · subst e
      simp [List.getD, rowsC_len]
    · have hj : j < d := by omega
      rw [← ih hj]
      simp only [List.getD_eq_getElem?_getD]
      rw [List.getElem?_append_left (by rw [rowsC_len]; exact hj)]
theorem rowsC_old {p N : List Int} {c : Int} {f k : Nat} (hp : PIn p) (hl : N.length = p.length) (hk : k < p.length) : ∀ d : Nat, (d : Int) ≤ c → rowsC (chainN p c f N k) d = rowsC N d
  | 0, _ => rfl
  | d + 1, hd => by
    unfold rowsC
    rw [rowsC_old hp hl hk d (by omega), idxs_old hp hl hk (by omega) (by omega)]
def cusL (p : List Int) : List (List Int) := rowsC (cusN p p.length).1 (cusN p p.length).2.toNat
/-! ### Cycles are whole -/
def Closed (p N : List Int) : Prop := ∀ k, k < p.length → 0 ≤ N.getD k 0 → N.getD (pk p k) 0 = N.getD k 0
def itP (p : List Int) : Nat → Nat → Nat
  | 0, k => k
  | t + 1, k => itP p t (pk p k)
theorem itP_lt {p : List Int} (hp : PIn p) : ∀ t k, k < p.length → itP p t k < p.length
  | 0, _, h => h
  | t + 1, _, h => itP_lt hp t _ (hp.pk_lt h).1
theorem itP_old {p N : List Int} {c d : Int} (hp : PIn p) (hc : ∀ k, k < p.length → 0 ≤ N.getD k 0 → N.getD k 0 ≠ c → N.getD (pk p k) 0 = N.getD k 0) (hd : 0 ≤ d) (hdc : d ≠ c) : ∀ t k, k < p.length → N.getD k 0 = d → N.getD (itP p t k) 0 = d
  | 0, _, _, h => h
  | t + 1, k, hk, h => itP_old hp hc hd hdc t _ (hp.pk_lt hk).1 (by rw [hc k hk (by omega) (by omega)]; exact h)
structure ClAt (p : List Int) (c : Int) (N : List Int) (k : Nat) : Prop where
  len : N.length = p.length
  k0 : k < p.length
  old : ∀ j, j < p.length → 0 ≤ N.getD j 0 → N.getD j 0 ≠ c → N.getD (pk p j) 0 = N.getD j 0
  new : ∀ j, j < p.length → N.getD j 0 = c → N.getD (pk p j) 0 = c ∨ pk p j = k
  come : N.getD k 0 < 0 ∨ ∃ j, j < p.length ∧ N.getD j 0 = c ∧ pk p j = k
theorem chain_closed {p : List Int} {c : Int} {m : Nat} (hp : PIn p) (hc : 0 ≤ c) (hm : ∀ k, k < p.length → itP p (m + 1) k = k) : ∀ (f : Nat) (N : List Int) (k : Nat), negs N ≤ f → ClAt p c N k → Closed p (chainN p c f N k) := by
  have stop : ∀ (N : List Int) (k : Nat), ClAt p c N k → ¬ N.getD k 0 < 0 → Closed p N := by
    rintro N k ⟨len, k0, old, new, come⟩ hN
    have hkc : N.getD k 0 = c := by
      refine Classical.byContradiction fun hne => ?_
      rcases come with h | ⟨j, hj, hjc, e⟩
      · exact hN h
      · have h1 := itP_old hp old (show 0 ≤ N.getD k 0 by omega) hne m k k0 rfl
        have h2 := hm j hj
        unfold itP at h2
        rw [e] at h2
        rw [h2, hjc] at h1
        exact hne h1.symm
    intro j hj hj0
    by_cases e : N.getD j 0 = c
    · rcases new j hj e with h | h
      · rw [h, e]
      · rw [h, hkc, e]
    · exact old j hj hj0 e
  intro f
  induction f with
  | zero =>
    intro N k hn h
    refine stop N k h fun hN => ?_
    have := negs_pos (show k < N.length by have := h.len; have := h.k0; omega) hN
    omega
  | succ f ih =>
    intro N k hn h
    by_cases hN : N.getD k 0 < 0
    · rw [chainN_go hN]
      obtain ⟨len, k0, old, new, come⟩ := h
      have hkN : k < N.length := by omega
      have hset := negs_set hkN hN hc
      have hnk : ∀ j, j < p.length → 0 ≤ N.getD j 0 → j ≠ k := fun j _ hj0 e => by subst e; omega
      refine ih _ _ (by omega) ⟨by simpa using len, (hp.pk_lt k0).1, fun j hj hj0 hjc => ?_, fun j hj hjc => ?_, ?_⟩
      · rw [getD_set_eq hkN] at hj0 hjc ⊢
        rw [getD_set_eq hkN]
        by_cases e : j = k
        · subst e; rw [if_pos rfl] at hjc; exact absurd rfl hjc
        · rw [if_neg e] at hj0 hjc ⊢
          have h1 := old j hj hj0 hjc
          rw [if_neg (fun e2 => by rw [e2] at h1; omega), h1]
      · rw [getD_set_eq hkN] at hjc ⊢
        by_cases e : j = k
        · subst e; exact .inr rfl
        · rw [if_neg e] at hjc
          rcases new j hj hjc with h1 | h1
          · left; split
            · rfl
            · exact h1
          · left; rw [if_pos h1]
      · exact .inr ⟨k, k0, by rw [getD_set_eq hkN, if_pos rfl], rfl⟩
    · rw [chainN_stop hN]
      exact stop N k h hN
theorem cus_closed {p : List Int} {m : Nat} (hp : PIn p) (hm : ∀ k, k < p.length → itP p (m + 1) k = k) : ∀ i, i ≤ p.length → Closed p (cusN p i).1
  | 0, _ => fun k hk h => by
    have e : (List.replicate p.length (-1 : Int)).getD k 0 = -1 := by simp [List.getD, hk]
    have h' : 0 ≤ (List.replicate p.length (-1 : Int)).getD k 0 := h
    rw [e] at h'; omega
  | i + 1, hi => by
    have ih := cus_closed hp hm i (by omega)
    obtain ⟨len, c0, c1, lo, hi', met⟩ := cusInv hp i (by omega)
    by_cases hN : (cusN p i).1.getD i 0 < 0
    · rw [cusN_go hN]
      refine chain_closed hp c0 hm _ _ _ (by have := negs_le (cusN p i).1; omega) ⟨len, by omega, fun j hj h0 _ => ih j hj h0, fun j hj hjc => ?_, .inl hN⟩
      have := hi' j hj
      omega
    · rw [cusN_no hN]; exact ih
theorem itP_same {p N : List Int} (hp : PIn p) (hc : Closed p N) (hall : ∀ k, k < p.length → 0 ≤ N.getD k 0) : ∀ t k, k < p.length → N.getD (itP p t k) 0 = N.getD k 0
  | 0, _, _ => rfl
  | t + 1, k, hk => by
    show N.getD (itP p t (pk p k)) 0 = _
    rw [itP_same hp hc hall t _ (hp.pk_lt hk).1, hc k hk (hall k hk)]
end Go.Proofs.Ytjnkogkpdbgohaa
/- Plain: Euclid with multiples, both ways; a fraction's cusp does not depend on the way. -/
namespace Go.Proofs.Ytjnkogkpdbgohaa
/-- The numbers p, q in Euclid's way and one row a, c of multiples: their sizes and signs. -/
def Euc (M : Nat) (p q a c : Int) : Prop := ∃ (e d s : Int) (P Q A C : Nat), (e = 1 ∨ e = -1) ∧ (d = 1 ∨ d = -1) ∧ (s = 1 ∨ s = -1) ∧ p = e * P ∧ q = d * Q ∧ a = s * A ∧ c = -(s * e * d) * C ∧ A * Q + C * P ≤ M ∧ A ≤ M ∧ C ≤ M
theorem pm_abs {e : Int} (h : e = 1 ∨ e = -1) (n : Nat) : (e * n).natAbs = n := by rcases h with rfl | rfl <;> omega
theorem Euc.bd {M : Nat} {p q a c : Int} (h : Euc M p q a c) : a.natAbs ≤ M ∧ c.natAbs ≤ M := by
  obtain ⟨e, d, s, P, Q, A, C, he, hd, hs, rfl, rfl, rfl, rfl, h1, h2, h3⟩ := h
  refine ⟨by rw [pm_abs hs]; exact h2, ?_⟩
  have : -(s * e * d) = 1 ∨ -(s * e * d) = -1 := by rcases he with rfl | rfl <;> rcases hd with rfl | rfl <;> rcases hs with rfl | rfl <;> simp
  rw [pm_abs this]; exact h3
theorem sq_pm {e : Int} (h : e = 1 ∨ e = -1) : e * e = 1 := by rcases h with rfl | rfl <;> rfl
theorem pm_tdiv {e d : Int} (he : e = 1 ∨ e = -1) (hd : d = 1 ∨ d = -1) (P Q : Nat) : Int.tdiv (e * P) (d * Q) = e * d * ((P / Q : Nat) : Int) := by
  have h : Int.tdiv (P : Int) (Q : Int) = ((P / Q : Nat) : Int) := rfl
  rcases he with rfl | rfl <;> rcases hd with rfl | rfl <;> simp [Int.neg_tdiv, Int.tdiv_neg, Int.neg_mul, h]
/-- What one round does, with the sizes of its products. -/
theorem Euc.step {M : Nat} {p q a c : Int} (h : Euc M p q a c) (hq : q ≠ 0) : Euc M q (p - Int.tdiv p q * q) c (a - Int.tdiv p q * c) ∧ (Int.tdiv p q * c).natAbs ≤ M := by
  obtain ⟨e, d, s, P, Q, A, C, he, hd, hs, rfl, rfl, rfl, rfl, h1, h2, h3⟩ := h
  have hQ : 1 ≤ Q := by
    rcases Nat.eq_zero_or_pos Q with rfl | h
    · exact absurd (by simp) hq
    · exact h
  rw [pm_tdiv he hd]
  have hm := Nat.div_add_mod P Q
  have hnc : P / Q * C * Q ≤ C * P := by
    have := Nat.mul_le_mul_left C (Nat.div_mul_le_self P Q)
    rw [Nat.mul_right_comm, Nat.mul_comm _ C]; exact this
  have hnc2 : P / Q * C ≤ M := by
    have : P / Q * C * 1 ≤ P / Q * C * Q := Nat.mul_le_mul_left _ hQ
    omega
  have hnew : (A + P / Q * C) * Q + C * (P % Q) ≤ M := by
    have h4 : C * P = C * (Q * (P / Q)) + C * (P % Q) := by rw [← Nat.mul_add, hm]
    rw [Nat.add_mul]
    have h5 : P / Q * C * Q = C * (Q * (P / Q)) := by rw [Nat.mul_comm (P / Q) C, Nat.mul_assoc, Nat.mul_comm (P / Q) Q]
    omega
  have hC' : A + P / Q * C ≤ M := by
    have : (A + P / Q * C) * 1 ≤ (A + P / Q * C) * Q := Nat.mul_le_mul_left _ hQ
    omega
  have hmi : (P : Int) = Q * ((P / Q : Nat) : Int) + ((P % Q : Nat) : Int) := by exact_mod_cast hm.symm
  generalize hk : P / Q = k at *
  generalize P % Q = r at *
  refine ⟨⟨d, e, -(s * e * d), Q, r, C, A + k * C, hd, he, by rcases he with rfl | rfl <;> rcases hd with rfl | rfl <;> rcases hs with rfl | rfl <;> simp, rfl, ?_, rfl, ?_, by rw [Nat.add_comm]; exact hnew, h3, hC'⟩, ?_⟩
  · rw [hmi]
    rcases he with rfl | rfl <;> rcases hd with rfl | rfl <;> (simp only [Int.neg_mul, Int.mul_neg, Int.one_mul, Int.neg_neg, Int.mul_one, Int.mul_comm (k : Int)]; omega)
  · rcases he with rfl | rfl <;> rcases hd with rfl | rfl <;> rcases hs with rfl | rfl <;> (push_cast; simp only [Int.neg_mul, Int.mul_neg, Int.one_mul, Int.neg_neg]; omega)
  · have : (e * d * (k : Int) * (-(s * e * d) * C)).natAbs = k * C := by
      rw [Int.natAbs_mul, Int.natAbs_mul, Int.natAbs_mul]
      have h6 : -(s * e * d) = 1 ∨ -(s * e * d) = -1 := by rcases he with rfl | rfl <;> rcases hd with rfl | rfl <;> rcases hs with rfl | rfl <;> simp
      rcases he with rfl | rfl <;> rcases hd with rfl | rfl <;> rcases h6 with h6 | h6 <;> rw [h6] <;> simp
    rw [this]; exact hnc2
theorem euc_start {M : Nat} {p q : Int} (hp : p.natAbs ≤ M) (hq : q.natAbs ≤ M) (h1 : 1 ≤ M) : Euc M p q 1 0 ∧ Euc M p q 0 1 := by
  have key : ∀ x : Int, ∃ e : Int, (e = 1 ∨ e = -1) ∧ x = e * x.natAbs := fun x => by
    rcases Int.le_total 0 x with h | h
    · exact ⟨1, Or.inl rfl, by omega⟩
    · exact ⟨-1, Or.inr rfl, by omega⟩
  obtain ⟨e, he, ep⟩ := key p
  obtain ⟨d, hd, eq⟩ := key q
  have hed : -(-(e * d) * e * d) = 1 := by rcases he with rfl | rfl <;> rcases hd with rfl | rfl <;> simp
  exact ⟨⟨e, d, 1, p.natAbs, q.natAbs, 1, 0, he, hd, Or.inl rfl, ep, eq, by simp, by simp, by omega, h1, by omega⟩, ⟨e, d, -(e * d), p.natAbs, q.natAbs, 0, 1, he, hd, by rcases he with rfl | rfl <;> rcases hd with rfl | rfl <;> simp, ep, eq, by simp, by rw [hed]; simp, by omega, by omega, h1⟩⟩
theorem tdiv_less {p q : Int} (hq : q ≠ 0) : (p - Int.tdiv p q * q).natAbs < q.natAbs := by
  have e : p - Int.tdiv p q * q = Int.tmod p q := by
    have := Int.mul_tdiv_add_tmod p q
    rw [Int.mul_comm] at this; omega
  rw [e, Int.natAbs_tmod]
  exact Nat.mod_lt _ (by omega)
/-- No common divisor but units. -/
def Cop (p q : Int) : Prop := ∀ g : Int, g ∣ p → g ∣ q → g ∣ 1
theorem cop_gcd {p q : Int} (h : (Int.gcd p q : Int) = 1) : Cop p q := fun g hp hq => by
  rw [← h]; exact Int.dvd_coe_gcd hp hq
theorem Cop.round {p q n : Int} (h : Cop p q) : Cop q (p - n * q) := fun g hq hr => h g (by
  have : p = (p - n * q) + n * q := by omega
  rw [this]; exact Int.dvd_add hr (Int.dvd_mul_of_dvd_right hq)) hq
theorem Cop.unit {p : Int} (h : Cop p 0) : p * p = 1 := by
  have hd := h p (Int.dvd_refl p) (Int.dvd_zero p)
  have : p.natAbs = 1 := by
    have := Int.natAbs_dvd_natAbs.2 hd
    exact Nat.dvd_one.1 this
  rcases Int.natAbs_eq p with e | e <;> rw [e, this] <;> rfl
/-- What stays in the program's Euclid. -/
structure Bez (K : Nat) (p0 q0 p q a b c d : Int) : Prop where
  ep : p = a * p0 + b * q0
  eq : q = c * p0 + d * q0
  cop : Cop p q
  e1 : Euc K p q a c
  e2 : Euc K p q b d
  hp : p.natAbs ≤ K
  hq : q.natAbs ≤ K
theorem bez_start {K : Nat} {p q : Int} (hp : p.natAbs ≤ K) (hq : q.natAbs ≤ K) (h1 : 1 ≤ K) (hc : Cop p q) : Bez K p q p q 1 0 0 1 := by
  obtain ⟨h2, h3⟩ := euc_start hp hq h1
  exact ⟨by simp, by simp, hc, h2, h3, hp, hq⟩
theorem lin_step (n a b c d x y : Int) : (a * x + b * y) - n * (c * x + d * y) = (a - n * c) * x + (b - n * d) * y := by
  rw [Int.sub_mul, Int.sub_mul, Int.mul_add, Int.mul_assoc, Int.mul_assoc]; omega
theorem Bez.step {K : Nat} {p0 q0 p q a b c d : Int} (h : Bez K p0 q0 p q a b c d) (hq : q ≠ 0) : Bez K p0 q0 q (p - Int.tdiv p q * q) c d (a - Int.tdiv p q * c) (b - Int.tdiv p q * d) ∧ (p - Int.tdiv p q * q).natAbs < q.natAbs ∧ (Int.tdiv p q * c).natAbs ≤ K ∧ (Int.tdiv p q * d).natAbs ≤ K ∧ (a - Int.tdiv p q * c).natAbs ≤ K ∧ (b - Int.tdiv p q * d).natAbs ≤ K ∧ (Int.tdiv p q * q).natAbs ≤ K ∧ (Int.tdiv p q).natAbs ≤ K := by
  obtain ⟨h1, h2⟩ := h.e1.step hq
  obtain ⟨h3, h4⟩ := h.e2.step hq
  have hl := tdiv_less (p := p) hq
  have hb := h.hp
  have hb2 := h.hq
  refine ⟨⟨h.eq, ?_, h.cop.round, h1, h3, h.hq, by omega⟩, hl, h2, h4, h1.bd.2, h3.bd.2, ?_, ?_⟩
  · have ep := h.ep
    have eq := h.eq
    generalize Int.tdiv p q = n
    rw [← lin_step, ← ep, ← eq]
  · rw [Int.natAbs_mul, Int.natAbs_tdiv]
    exact Nat.le_trans (Nat.div_mul_le_self _ _) hb
  · rw [Int.natAbs_tdiv]
    exact Nat.le_trans (Nat.div_le_self _ _) hb
theorem Bez.done {K : Nat} {p0 q0 p a b c d : Int} (h : Bez K p0 q0 p 0 a b c d) : p0 * (a * p) - q0 * (-b * p) = 1 := by
  have h1 := h.cop.unit
  have h2 : p * p = p0 * (a * p) - q0 * (-b * p) := by
    have e : p * p = (a * p0 + b * q0) * p := by rw [← h.ep]
    rw [e, Int.add_mul, Int.neg_mul, Int.mul_neg, Int.mul_left_comm p0 a p, Int.mul_left_comm q0 b p, Int.mul_assoc, Int.mul_assoc]
    omega
  rw [← h2]; exact h1
/-- What stays in the model's Euclid: the first number and its rest, with the multiples of p. -/
structure Bot (K : Nat) (p0 q0 a b s t : Int) : Prop where
  ha : q0 ∣ a - s * p0
  hb : q0 ∣ b - t * p0
  cop : Cop a b
  e : Euc K a b s t
  a0 : 0 < a
  b0 : 0 ≤ b
  aK : a ≤ K
  bK : b ≤ K
theorem bot_start {K : Nat} {p q : Int} (hq : 0 < q) (hK : q ≤ K) (hc : Cop p q) : Bot K p q q (p % q) 0 1 := by
  have h1 := Int.emod_nonneg p (show q ≠ 0 by omega)
  have h2 := Int.emod_lt_of_pos p hq
  have hd := Int.emod_def p q
  refine ⟨⟨1, by simp⟩, ⟨-(p / q), by rw [hd, Int.mul_neg]; omega⟩, fun g ha hb => hc g ?_ ha, (euc_start (by omega) (by omega) (by omega)).2, hq, h1, hK, by omega⟩
  have : p = p % q + q * (p / q) := by omega
  rw [this]; exact Int.dvd_add hb (Int.dvd_mul_of_dvd_left ha)
theorem Bot.step {K : Nat} {p0 q0 a b s t : Int} (h : Bot K p0 q0 a b s t) (hb : b ≠ 0) : Bot K p0 q0 b (a - Int.tdiv a b * b) t (s - Int.tdiv a b * t) ∧ (a - Int.tdiv a b * b) < b ∧ (Int.tdiv a b * t).natAbs ≤ K ∧ (s - Int.tdiv a b * t).natAbs ≤ K ∧ s.natAbs ≤ K ∧ (Int.tdiv a b * b).natAbs ≤ K ∧ (Int.tdiv a b).natAbs ≤ K := by
  obtain ⟨h1, h2⟩ := h.e.step hb
  have hl := tdiv_less (p := a) hb
  have a0 := h.a0
  have b0 := h.b0
  have aK := h.aK
  have bK := h.bK
  have hr : 0 ≤ a - Int.tdiv a b * b := by
    have e : a - Int.tdiv a b * b = Int.tmod a b := by
      have := Int.mul_tdiv_add_tmod a b
      rw [Int.mul_comm] at this; omega
    rw [e]; exact Int.tmod_nonneg _ (by omega)
  refine ⟨⟨h.hb, ?_, h.cop.round, h1, by omega, hr, bK, by omega⟩, by omega, h2, h1.bd.2, h.e.bd.1, ?_, ?_⟩
  · obtain ⟨x, hx⟩ := h.ha
    obtain ⟨y, hy⟩ := h.hb
    refine ⟨x - Int.tdiv a b * y, ?_⟩
    rw [Int.mul_sub, ← hx, Int.mul_left_comm, ← hy, Int.sub_mul, Int.mul_sub, Int.mul_assoc]; omega
  · rw [Int.natAbs_mul, Int.natAbs_tdiv]
    exact Nat.le_trans (Nat.div_mul_le_self _ _) (by omega)
  · rw [Int.natAbs_tdiv]
    exact Nat.le_trans (Nat.div_le_self _ _) (by omega)
theorem Bot.done {K : Nat} {p0 q0 a s t : Int} (h : Bot K p0 q0 a 0 s t) : ∃ r, p0 * s - q0 * r = 1 := by
  have h1 := h.cop.unit
  have a0 := h.a0
  have ha : a = 1 := by
    rcases Int.lt_or_le a 2 with h | h
    · omega
    · have := Int.mul_le_mul h h (by omega) (by omega)
      omega
  obtain ⟨x, hx⟩ := h.ha
  refine ⟨-x, ?_⟩
  rw [Int.mul_neg, ← hx, ha, Int.mul_comm s]; omega
end Go.Proofs.Ytjnkogkpdbgohaa
