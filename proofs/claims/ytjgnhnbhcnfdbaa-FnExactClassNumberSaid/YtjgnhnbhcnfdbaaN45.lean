/- Plain: the list of the reduced primitive forms of a discriminant. -/
import Derived.Test.YtjgnhnbhcnfdbaaN40
namespace Go.Proofs.Ytjgnhnbhcnfdbaa
def toldB (d : Int) : Bool := inB d (-2000) 2000 && (decide (d % 4 < 2) && (decide (d < 0) || !sqB d))
def okC (d a b : Int) : Int := (b * b - d).tdiv (4 * a)
/-- Whether a and b begin a reduced primitive form of d. -/
def okF (d a b : Int) : Bool := decide (a ≠ 0 ∧ (0 < d ∨ 0 < a)) && (decide ((b * b - d) % (4 * (a.natAbs : Int)) = 0) && (decide ((Int.gcd (Int.gcd a b : Int) (okC d a b) : Int) = 1) && redB a b (okC d a b)))
def frow (d a : Int) : Nat → List F3
  | 0 => []
  | k + 1 => frow d a k ++ if okF d a ((k : Int) - 50) = true then [⟨a, (k : Int) - 50, okC d a ((k : Int) - 50)⟩] else []
def fall (d : Int) : Nat → List F3
  | 0 => []
  | k + 1 => fall d k ++ frow d ((k : Int) - 50) 101
theorem frow_len (d a : Int) (k : Nat) : (frow d a k).length ≤ k := by
  induction k with
  | zero => simp [frow]
  | succ k ih => unfold frow; rw [List.length_append]; split <;> simp <;> omega
theorem fall_len (d : Int) (k : Nat) : (fall d k).length ≤ k * 101 := by
  induction k with
  | zero => simp [fall]
  | succ k ih => unfold fall; rw [List.length_append]; have := frow_len d ((k : Int) - 50) 101; omega
theorem frow_yes {d a : Int} {k : Nat} {b : Int} (hb : b = (k : Int) - 50) (h : okF d a b = true) : frow d a (k + 1) = frow d a k ++ [⟨a, b, okC d a b⟩] := by
  subst hb
  show frow d a k ++ (if _ then _ else _) = _
  rw [if_pos h]
theorem frow_no {d a : Int} {k : Nat} {b : Int} (hb : b = (k : Int) - 50) (h : okF d a b = false) : frow d a (k + 1) = frow d a k := by
  subst hb
  show frow d a k ++ (if _ then _ else _) = _
  rw [if_neg (by rw [h]; simp)]; simp
theorem frow_skip {d a : Int} {k j : Nat} (hkj : k ≤ j) (h : ∀ i : Nat, k ≤ i → i < j → okF d a ((i : Int) - 50) = false) : frow d a j = frow d a k := by
  induction j with
  | zero => obtain rfl : k = 0 := by omega
            rfl
  | succ j ih =>
    by_cases e : k = j + 1
    · subst e; rfl
    · rw [frow_no rfl (h j (by omega) (by omega))]
      exact ih (by omega) (fun i h1 h2 => h i h1 (by omega))
theorem fall_skip {d : Int} {k j : Nat} (hkj : k ≤ j) (h : ∀ i : Nat, k ≤ i → i < j → frow d ((i : Int) - 50) 101 = []) : fall d j = fall d k := by
  induction j with
  | zero => obtain rfl : k = 0 := by omega
            rfl
  | succ j ih =>
    by_cases e : k = j + 1
    · subst e; rfl
    · show fall d j ++ _ = _
      rw [h j (by omega) (by omega), List.append_nil]
      exact ih (by omega) (fun i h1 h2 => h i h1 (by omega))
theorem natAbs4 (a : Int) : (4 * (a.natAbs : Int)) = 4 * a ∨ (4 * (a.natAbs : Int)) = -(4 * a) := by omega
theorem dvd_abs {a n : Int} : n % (4 * (a.natAbs : Int)) = 0 ↔ (4 * a) ∣ n := by
  rw [← Int.dvd_iff_emod_eq_zero]
  rcases natAbs4 a with h | h <;> rw [h]
  exact Int.neg_dvd
/-- The discriminant tells the division. -/
theorem disc_iff {d a b : Int} (_ : a ≠ 0) : disc a b (okC d a b) = d ↔ (b * b - d) % (4 * (a.natAbs : Int)) = 0 := by
  rw [dvd_abs]
  unfold disc okC
  constructor
  · intro h; exact ⟨(b * b - d).tdiv (4 * a), by omega⟩
  · intro h
    rw [Int.mul_tdiv_cancel' h]; omega
structure OkB (d a b : Int) : Prop where
  a0 : -isqrt (d.natAbs : Int) ≤ a
  a1 : a ≤ isqrt (d.natAbs : Int)
  b0 : -isqrt (d.natAbs : Int) ≤ b
  b1 : b ≤ isqrt (d.natAbs : Int)
  an : a ≠ 0
theorem sq_le_isqrt {a d : Int} (hd : 0 ≤ d) (h : a * a ≤ d) : a ≤ isqrt d := by
  have hr := isqrt_root hd
  have := hr.nn
  have h1 : a < isqrt d + 1 := lt_of_sq (by omega) (Int.lt_of_le_of_lt h hr.hi)
  omega
theorem okF_bd {d a b : Int} (h : okF d a b = true) : OkB d a b := by
  unfold okF at h
  simp only [Bool.and_eq_true, decide_eq_true_eq] at h
  obtain ⟨⟨h1, h2⟩, h3, h4, h5⟩ := h
  have hd := (disc_iff h1).2 h3
  generalize okC d a b = c at *
  by_cases hd0 : d < 0
  · have ha : 0 < a := by omega
    unfold redB at h5
    rw [if_pos ⟨by omega, ha⟩] at h5
    simp only [redDef, decide_eq_true_eq] at h5
    obtain ⟨q1, q2, q3, q4⟩ := h5
    have e1 : b * b ≤ a * a := by
      rcases Int.le_total 0 b with hb | hb
      · exact mul_le_self hb q2
      · have := mul_le_self (x := -b) (y := a) (by omega) (by omega)
        rwa [Int.neg_mul_neg] at this
    have e2 : a * a ≤ a * c := Int.mul_le_mul_of_nonneg_left q3 (by omega)
    have e3 : 4 * a * c = 4 * (a * c) := Int.mul_assoc _ _ _
    unfold disc at hd
    have e4 := sq_nn a
    have hr : a ≤ isqrt (d.natAbs : Int) := sq_le_isqrt (by omega) (by omega)
    exact ⟨by omega, hr, by omega, by omega, h1⟩
  · have e0 : d ≠ 0 ∨ d = 0 := by omega
    unfold redB at h5
    rw [if_neg (by omega)] at h5
    by_cases hz : d = 0
    · exfalso
      simp only [redInd, decide_eq_true_eq] at h5
      have := sq_nn b
      omega
    · have hc := cyc_of_red (f := ⟨a, b, c⟩) (D := d) hd (by omega) h5
      have ed : ((d.natAbs : Nat) : Int) = d := by omega
      rw [← ed] at hc
      obtain ⟨-, y0, y1, lo, hi⟩ := hc
      simp only at y0 y1 lo hi
      exact ⟨by omega, by omega, by omega, y1, h1⟩
theorem okF_out {d a b : Int} (h : ¬ (-isqrt (d.natAbs : Int) ≤ a ∧ a ≤ isqrt (d.natAbs : Int) ∧ -isqrt (d.natAbs : Int) ≤ b ∧ b ≤ isqrt (d.natAbs : Int) ∧ a ≠ 0)) : okF d a b = false := by
  cases hx : okF d a b
  · rfl
  · obtain ⟨h1, h2, h3, h4, h5⟩ := okF_bd hx
    exact absurd ⟨h1, h2, h3, h4, h5⟩ h
theorem told_bd {d : Int} (h : toldB d = true) : -2000 ≤ d ∧ d ≤ 2000 := by
  simp [toldB, inB] at h; omega
theorem most_bd {d : Int} (h : -2000 ≤ d ∧ d ≤ 2000) : 0 ≤ isqrt (d.natAbs : Int) ∧ isqrt (d.natAbs : Int) ≤ 44 := by
  have h1 := (isqrt_root (show 0 ≤ (d.natAbs : Int) by omega)).nn
  exact ⟨h1, isqrt_le (by omega) (by omega) (by omega)⟩
/-- The row ends at the root, and begins there. -/
theorem frow_first {d a : Int} {m k : Nat} (hm : (m : Int) = isqrt (d.natAbs : Int)) (h : m ≤ 50) (hk : k = 50 - m) : frow d a k = [] := by
  subst hk
  rw [frow_skip (k := 0) (by omega)]
  · rfl
  · intro i _ h2; exact okF_out (by omega)
theorem frow_last {d a : Int} {m k : Nat} (hm : (m : Int) = isqrt (d.natAbs : Int)) (h : m ≤ 50) (hk : k = 50 + m + 1) : frow d a k = frow d a 101 := by
  subst hk
  exact (frow_skip (by omega) (fun i h1 h2 => okF_out (by omega))).symm
theorem frow_nil {d a : Int} (h : a = 0 ∨ ¬ (-isqrt (d.natAbs : Int) ≤ a ∧ a ≤ isqrt (d.natAbs : Int))) (k : Nat) : frow d a k = [] := by
  rw [frow_skip (k := 0) (by omega)]
  · rfl
  · intro i _ h2; exact okF_out (by omega)
theorem frow_neg {d a : Int} (h : ¬ (a ≠ 0 ∧ (0 < d ∨ 0 < a))) (k : Nat) : frow d a k = [] := by
  rw [frow_skip (k := 0) (by omega)]
  · rfl
  · intro i _ h2; unfold okF; rw [decide_eq_false h]; rfl
theorem fall_first {d : Int} {m k : Nat} (hm : (m : Int) = isqrt (d.natAbs : Int)) (h : m ≤ 50) (hk : k = 50 - m) : fall d k = [] := by
  subst hk
  rw [fall_skip (k := 0) (by omega)]
  · rfl
  · intro i _ h2; exact frow_nil (by omega) _
theorem fall_last {d : Int} {m k : Nat} (hm : (m : Int) = isqrt (d.natAbs : Int)) (h : m ≤ 50) (hk : k = 50 + m + 1) : fall d k = fall d 101 := by
  subst hk
  exact (fall_skip (by omega) (fun i h1 h2 => frow_nil (by omega) _)).symm
structure OkBd (d a b : Int) : Prop where
  c0 : -1200 ≤ okC d a b
  c1 : okC d a b ≤ 1200
  s0 : 0 ≤ b * b
  s1 : b * b ≤ 2500
theorem okBd {d a b : Int} (hd : -2000 ≤ d ∧ d ≤ 2000) (ha : a ≠ 0) (hb : -50 ≤ b ∧ b ≤ 50) : OkBd d a b := by
  have h1 := sq_nn b
  have h2 := (mul_bd hb.1 hb.2 hb.1 hb.2).2
  have h3 : b * b ≤ 2500 := h2
  have e1 : (okC d a b).natAbs ≤ 1200 := by
    unfold okC
    rw [Int.natAbs_tdiv]
    refine Nat.div_le_of_le_mul ?_
    have h4 : 4 ≤ (4 * a).natAbs := by omega
    have h5 := Nat.mul_le_mul_right 1200 h4
    omega
  exact ⟨by omega, by omega, h1, h3⟩
def formsRes (d : Int) : List F3 × Int := if toldB d = true then (fall d 101, 0) else ([], 2)
theorem formsRes_len (d : Int) : (formsRes d).1.length ≤ 20000 := by
  unfold formsRes
  split
  · have := fall_len d 101; simp only; omega
  · simp
/-- What is in the list is a reduced form of d. -/
theorem frow_mem {d a : Int} {f : F3} {k : Nat} (h : f ∈ frow d a k) : f.x = a ∧ okF d a f.y = true ∧ f.z = okC d a f.y := by
  induction k with
  | zero => simp [frow] at h
  | succ k ih =>
    unfold frow at h
    rw [List.mem_append] at h
    rcases h with h | h
    · exact ih h
    · split at h
      · rename_i hk
        simp at h; subst h; exact ⟨rfl, hk, rfl⟩
      · simp at h
theorem fall_mem {d : Int} {f : F3} {k : Nat} (h : f ∈ fall d k) : okF d f.x f.y = true ∧ f.z = okC d f.x f.y := by
  induction k with
  | zero => simp [fall] at h
  | succ k ih =>
    unfold fall at h
    rw [List.mem_append] at h
    rcases h with h | h
    · exact ih h
    · obtain ⟨h1, h2, h3⟩ := frow_mem h
      rw [h1]; exact ⟨h2, h3⟩
theorem fall_cyc {d : Int} {f : F3} (hd : 0 < d) (h : f ∈ fall d 101) : Cyc d f := by
  obtain ⟨h1, h2⟩ := fall_mem h
  unfold okF at h1
  simp only [Bool.and_eq_true, decide_eq_true_eq] at h1
  obtain ⟨⟨q1, q2⟩, q3, q4, q5⟩ := h1
  have hdi := (disc_iff q1).2 q3
  rw [← h2] at hdi q5
  refine cyc_of_red hdi hd ?_
  unfold redB at q5
  rwa [if_neg (by omega)] at q5
end Go.Proofs.Ytjgnhnbhcnfdbaa
