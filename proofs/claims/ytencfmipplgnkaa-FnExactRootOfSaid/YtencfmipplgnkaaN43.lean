/- Plain: traces of powers, and roots. -/
import Derived.Test.YtencfmipplgnkaaN42
namespace Go.Proofs.Ytencfmipplgnkaa
/-- The trace of the power of k of a matrix with the trace s, and the one before. -/
def trP (s : Int) : Nat → Int × Int
  | 0 => (2, s)
  | k + 1 => (s * (trP s k).1 - (trP s k).2, (trP s k).1)
/-- By how much the matrix is in its power of k, and by how much the identity. -/
def unP (s : Int) : Nat → Int × Int
  | 0 => (0, -1)
  | k + 1 => (s * (unP s k).1 - (unP s k).2, (unP s k).1)
def tr (s : Int) (k : Nat) : Int := (trP s k).1
def un (s : Int) (k : Nat) : Int := (unP s k).1
theorem tr_zero (s : Int) : tr s 0 = 2 := rfl
theorem tr_one (s : Int) : tr s 1 = s := by simp [tr, trP]; omega
theorem tr_step (s : Int) (k : Nat) : tr s (k + 2) = s * tr s (k + 1) - tr s k := rfl
theorem un_zero (s : Int) : un s 0 = 0 := rfl
theorem un_one (s : Int) : un s 1 = 1 := by simp [un, unP]
theorem un_step (s : Int) (k : Nat) : un s (k + 2) = s * un s (k + 1) - un s k := rfl
theorem tr_up {s : Int} (hs : 3 ≤ s) : ∀ k : Nat, 2 ≤ tr s k ∧ tr s k < tr s (k + 1)
  | 0 => by rw [tr_zero, tr_one]; omega
  | k + 1 => by
    obtain ⟨h1, h2⟩ := tr_up hs k
    rw [tr_step]
    have := Int.mul_le_mul_of_nonneg_right hs (show 0 ≤ tr s (k + 1) by omega)
    omega
theorem tr_le {s : Int} (hs : 3 ≤ s) {j : Nat} : ∀ {k : Nat}, j ≤ k → tr s j ≤ tr s k
  | 0, h => by obtain rfl : j = 0 := by omega
               exact Int.le_refl _
  | k + 1, h => by
    by_cases e : j = k + 1
    · subst e; exact Int.le_refl _
    · have := tr_le hs (show j ≤ k by omega)
      have := (tr_up hs k).2
      omega
theorem un_up {s : Int} (hs : 3 ≤ s) : ∀ k : Nat, 0 ≤ un s k ∧ un s k < un s (k + 1)
  | 0 => by rw [un_zero, un_one]; omega
  | k + 1 => by
    obtain ⟨h1, h2⟩ := un_up hs k
    rw [un_step]
    have := Int.mul_le_mul_of_nonneg_right hs (show 0 ≤ un s (k + 1) by omega)
    omega
/-- tr - un grows: so un stays under tr. -/
theorem un_tr {s : Int} (hs : 3 ≤ s) : ∀ k : Nat, 1 ≤ tr s k - un s k ∧ tr s k - un s k ≤ tr s (k + 1) - un s (k + 1)
  | 0 => by rw [tr_zero, un_zero, tr_one, un_one]; omega
  | k + 1 => by
    obtain ⟨h1, h2⟩ := un_tr hs k
    rw [tr_step, un_step]
    have := Int.mul_le_mul_of_nonneg_right hs (show 0 ≤ tr s (k + 1) - un s (k + 1) by omega)
    rw [Int.mul_sub s] at this
    omega
theorem tr_mono {s s' : Int} (hs : 3 ≤ s) (h : s < s') : ∀ k : Nat, 0 ≤ tr s' k - tr s k ∧ tr s' k - tr s k < tr s' (k + 1) - tr s (k + 1)
  | 0 => by rw [tr_zero, tr_zero, tr_one, tr_one]; omega
  | k + 1 => by
    obtain ⟨h1, h2⟩ := tr_mono hs h k
    have h3 := (tr_up (show 3 ≤ s' by omega) (k + 1)).1
    rw [tr_step, tr_step]
    have e1 := Int.mul_le_mul_of_nonneg_right hs (show 0 ≤ tr s' (k + 1) - tr s (k + 1) by omega)
    have e2 := Int.mul_le_mul_of_nonneg_right (show 1 ≤ s' - s by omega) (show 0 ≤ tr s' (k + 1) by omega)
    rw [Int.mul_sub s] at e1
    rw [Int.sub_mul] at e2
    omega
theorem tr_lt {s s' : Int} (hs : 3 ≤ s) (h : s < s') {k : Nat} (hk : 1 ≤ k) : tr s k < tr s' k := by
  obtain ⟨j, rfl⟩ : ∃ j, k = j + 1 := ⟨k - 1, by omega⟩
  have := tr_mono hs h j
  omega
theorem tr_inj {s s' : Int} (hs : 3 ≤ s) (hs' : 3 ≤ s') {k : Nat} (hk : 1 ≤ k) (h : tr s k = tr s' k) : s = s' := by
  rcases (show s < s' ∨ s' < s ∨ s = s' by omega) with g | g | g
  · have := tr_lt hs g hk; omega
  · have := tr_lt hs' g hk; omega
  · exact g
theorem tr_two (s : Int) : tr s 2 = s * s - 2 := by rw [tr_step, tr_one, tr_zero]
theorem tr_big {s : Int} (hs : 3 ≤ s) {k : Nat} (hk : 23 ≤ k) : 2000000000 < tr s k := by
  have h1 : tr 3 23 ≤ tr s 23 := by
    by_cases h : s = 3
    · subst h; exact Int.le_refl _
    · have := tr_lt (show (3 : Int) ≤ 3 by omega) (show 3 < s by omega) (show 1 ≤ 23 by omega)
      omega
  have h2 := tr_le hs hk
  have h3 : tr 3 23 = 4106118243 := by decide +kernel
  omega
/-- A root of k of the matrix m with the trace t: by the trace s. -/
structure Hit (m : Q4) (t : Int) (k : Nat) (s : Int) : Prop where
  s3 : 3 ≤ s
  tr : tr s k = t
  a : (m.a + un s (k - 1)) % un s k = 0
  b : m.b % un s k = 0
  c : m.c % un s k = 0
  d : (m.d + un s (k - 1)) % un s k = 0
def rootQ (m : Q4) (k : Nat) (s : Int) : Q4 := ⟨(m.a + un s (k - 1)) / un s k, m.b / un s k, m.c / un s k, (m.d + un s (k - 1)) / un s k⟩
open Classical in
/-- The root with the greatest exponent up to k. -/
noncomputable def rootR (m : Q4) (t : Int) : Nat → Q4 × Int
  | 0 => (m, 1)
  | 1 => (m, 1)
  | k + 2 => if h : ∃ s, Hit m t (k + 2) s then (rootQ m (k + 2) h.choose, (k + 2 : Nat)) else rootR m t (k + 1)
theorem rootR_hit {m : Q4} {t s : Int} {k : Nat} (hk : 2 ≤ k) (h : Hit m t k s) : rootR m t k = (rootQ m k s, (k : Int)) := by
  obtain ⟨j, rfl⟩ : ∃ j, k = j + 2 := ⟨k - 2, by omega⟩
  have hx : ∃ s, Hit m t (j + 2) s := ⟨s, h⟩
  have e : hx.choose = s := tr_inj hx.choose_spec.s3 h.s3 (show 1 ≤ j + 2 by omega) (hx.choose_spec.tr.trans h.tr.symm)
  rw [rootR, dif_pos hx, e]
theorem rootR_no {m : Q4} {t : Int} {k : Nat} (hk : 2 ≤ k) (h : ¬ ∃ s, Hit m t k s) : rootR m t k = rootR m t (k - 1) := by
  obtain ⟨j, rfl⟩ : ∃ j, k = j + 2 := ⟨k - 2, by omega⟩
  rw [rootR, dif_neg h]; rfl
theorem rootR_top {m : Q4} {t : Int} (ht : t ≤ 2000000000) : ∀ {k : Nat}, 22 ≤ k → rootR m t k = rootR m t 22
  | 0, h => by omega
  | k + 1, h => by
    by_cases e : k + 1 = 22
    · rw [e]
    · rw [rootR_no (by omega), Nat.add_sub_cancel]
      · exact rootR_top ht (by omega)
      · rintro ⟨s, hs⟩
        have := tr_big hs.s3 (show 23 ≤ k + 1 by omega)
        have := hs.tr
        omega
end Go.Proofs.Ytencfmipplgnkaa
