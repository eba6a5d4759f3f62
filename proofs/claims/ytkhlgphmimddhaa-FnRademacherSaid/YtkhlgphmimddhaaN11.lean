/- Plain facts: finite sums; reciprocity of the sums of h and k. -/
import Derived.Test.YtkhlgphmimddhaaN10
namespace Go.Proofs.Ytkhlgphmimddhaa
def S : Nat → (Nat → Int) → Int
  | 0, _ => 0
  | n + 1, f => S n f + f n
theorem S_succ (n : Nat) (f : Nat → Int) : S (n + 1) f = S n f + f n := rfl
theorem S_congr {n : Nat} {f g : Nat → Int} (h : ∀ i, i < n → f i = g i) : S n f = S n g := by
  induction n with
  | zero => rfl
  | succ n ih => simp only [S_succ]; rw [ih (fun i hi => h i (by omega)), h n (by omega)]
theorem S_add (n : Nat) (f g : Nat → Int) : S n (fun i => f i + g i) = S n f + S n g := by
  induction n with
  | zero => rfl
  | succ n ih => simp only [S_succ]; rw [ih]; omega
theorem S_sub (n : Nat) (f g : Nat → Int) : S n (fun i => f i - g i) = S n f - S n g := by
  induction n with
  | zero => rfl
  | succ n ih => simp only [S_succ]; rw [ih]; omega
theorem S_mul (n : Nat) (c : Int) (f : Nat → Int) : S n (fun i => c * f i) = c * S n f := by
  induction n with
  | zero => simp [S]
  | succ n ih => simp only [S_succ]; rw [ih, Int.mul_add]
theorem S_const (n : Nat) (c : Int) : S n (fun _ => c) = n * c := by
  induction n with
  | zero => simp [S]
  | succ n ih => simp only [S_succ]; rw [ih]; push_cast; rw [Int.add_mul]; omega
theorem S_zero (n : Nat) : S n (fun _ => 0) = 0 := by rw [S_const]; simp
theorem S_swap (n m : Nat) (f : Nat → Nat → Int) : S n (fun i => S m (fun j => f i j)) = S m (fun j => S n (fun i => f i j)) := by
  induction n with
  | zero => simp [S, S_zero]
  | succ n ih => simp only [S_succ]; rw [ih, ← S_add]
theorem S_nonneg {n : Nat} {f : Nat → Int} (h : ∀ i, i < n → 0 ≤ f i) : 0 ≤ S n f := by
  induction n with
  | zero => simp [S]
  | succ n ih => simp only [S_succ]; have := ih (fun i hi => h i (by omega)); have := h n (by omega); omega
theorem S_zero_all {n : Nat} {f : Nat → Int} (h : ∀ i, i < n → 0 ≤ f i) (hs : S n f = 0) : ∀ i, i < n → f i = 0 := by
  induction n with
  | zero => intro i hi; omega
  | succ n ih =>
    simp only [S_succ] at hs
    have h1 := S_nonneg (n := n) (f := f) (fun i hi => h i (by omega))
    have h2 := h n (by omega)
    intro i hi
    rcases Nat.lt_or_ge i n with h3 | h3
    · exact ih (fun i hi => h i (by omega)) (by omega) i h3
    · have : i = n := by omega
      subst this; omega
theorem S_pick {n j : Nat} (hj : j < n) (f : Nat → Int) : S n (fun i => if i = j then f i else 0) = f j := by
  induction n with
  | zero => omega
  | succ n ih =>
    simp only [S_succ]
    by_cases h : j = n
    · subst h
      rw [if_pos rfl, S_congr (g := fun _ => 0) (fun i hi => if_neg (by omega)), S_zero]; omega
    · rw [ih (by omega), if_neg (by omega)]; omega
/-- A map of 0 .. n - 1 into itself that takes no value twice moves a sum. -/
theorem S_inj_le {n : Nat} {g : Nat → Nat} (hi : ∀ i j, i < n → j < n → g i = g j → i = j) (c : Nat) : S n (fun i => if g i = c then 1 else 0) ≤ 1 ∧ ((∀ i, i < n → g i ≠ c) → S n (fun i => if g i = c then 1 else 0) = 0) := by
  induction n with
  | zero => simp [S]
  | succ n ih =>
    obtain ⟨h1, h2⟩ := ih (fun i j a b => hi i j (by omega) (by omega))
    simp only [S_succ]
    refine ⟨?_, fun h => ?_⟩
    · by_cases hc : g n = c
      · rw [if_pos hc, h2 (fun i hin hgi => by have := hi i n (by omega) (by omega) (by rw [hgi, hc]); omega)]; omega
      · rw [if_neg hc]; omega
    · rw [h2 (fun i hin => h i (by omega)), if_neg (h n (by omega))]; omega
theorem S_perm {n : Nat} {g : Nat → Nat} (hi : ∀ i j, i < n → j < n → g i = g j → i = j) (hg : ∀ i, i < n → g i < n) (f : Nat → Int) : S n (fun i => f (g i)) = S n f := by
  have hc : ∀ j, j < n → S n (fun i => if g i = j then 1 else 0) = 1 := by
    have h1 : S n (fun j => 1 - S n (fun i => if g i = j then 1 else 0)) = 0 := by
      rw [S_sub, S_swap]
      rw [S_congr (g := fun _ => 1) (n := n) (f := fun j => S n (fun i => if g j = i then 1 else 0))
        (fun i hin => by
          rw [S_congr (g := fun j => if j = g i then (fun _ => (1 : Int)) j else 0) (fun j _ => by by_cases h : j = g i <;> simp [h, eq_comm])]
          exact S_pick (hg i hin) (fun _ => 1))]
      omega
    intro j hj
    have := S_zero_all (fun j _ => by have := (S_inj_le hi j).1; omega) h1 j hj
    omega
  have e1 : S n (fun i => f (g i)) = S n (fun i => S n (fun j => (if g i = j then f j else 0))) := by
    refine S_congr fun i hin => ?_
    rw [S_congr (g := fun j => if j = g i then f j else 0) (fun j _ => by by_cases h : j = g i <;> simp [h, eq_comm])]
    exact (S_pick (hg i hin) f).symm
  rw [e1, S_swap]
  refine S_congr fun j hj => ?_
  rw [S_congr (g := fun i => f j * (if g i = j then 1 else 0)) (fun i _ => by split <;> simp), S_mul, hc j hj]
  omega
theorem S_id (n : Nat) : 2 * S n (fun i => (i : Int)) = n * (n - 1) := by
  induction n with
  | zero => simp [S]
  | succ n ih => simp only [S_succ]; push_cast; grind
theorem S_sq (n : Nat) : 6 * S n (fun i => (i : Int) * i) = n * (n - 1) * (2 * n - 1) := by
  induction n with
  | zero => simp [S]
  | succ n ih => simp only [S_succ]; push_cast; grind
theorem S_upto {n q : Nat} (h : q < n) : S n (fun j => if j ≤ q then 2 * (j : Int) else 0) = q * (q + 1) := by
  induction n with
  | zero => omega
  | succ n ih =>
    simp only [S_succ]
    by_cases hq : q = n
    · subst hq
      rw [if_pos (Nat.le_refl _), S_congr (g := fun j => 2 * (j : Int)) (fun i hi => if_pos (by omega)), S_mul, S_id]; grind
    · rw [ih (by omega), if_neg (by omega)]; omega
theorem S_from {n q : Nat} (h : q < n) (c : Int) : S n (fun i => if q < i then c else 0) = c * (n - 1 - q) := by
  induction n with
  | zero => omega
  | succ n ih =>
    simp only [S_succ]
    by_cases hq : q = n
    · subst hq
      rw [if_neg (by omega), S_congr (g := fun _ => 0) (fun i hi => if_neg (by omega)), S_zero]; push_cast; grind
    · rw [ih (by omega), if_pos (by omega)]; push_cast; grind
end Go.Proofs.Ytkhlgphmimddhaa
