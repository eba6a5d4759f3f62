/- Plain: what the great law tells of sums: of rests, of opposite numbers, of both sums together, of equal sums. -/
import Derived.Test.YtkhlgphmimddhaaD4
import Derived.Test.YtkhlgphmimddhaaC34
import Derived.Test.YtkhlgphmimddhaaC31
import Derived.Test.YtkhlgphmimddhaaN60
namespace Go.Proofs.Ytkhlgphmimddhaa
open Go.RowKit
theorem gcd_neg1 {p q : Int} : Int.gcd (-p) q = Int.gcd p q := by rw [Int.neg_gcd]
theorem fx_neg {p q : Int} : fx (-p) q = -fx p q := by unfold fx; rw [gcd_neg1, Int.neg_tdiv]
theorem fy_neg {p q : Int} : fy (-p) q = fy p q := by unfold fy; rw [gcd_neg1]
theorem gcd_rest {h k : Int} : Int.gcd (h % k) k = Int.gcd h k := by
  refine Nat.dvd_antisymm ?_ ?_
  · refine Int.dvd_gcd ?_ (Int.gcd_dvd_right _ _)
    have h1 := Int.gcd_dvd_left (h % k) k
    have h2 := Int.gcd_dvd_right (h % k) k
    have h3 := Int.dvd_add (Int.dvd_trans h2 (Int.dvd_mul_right k (h / k))) h1
    rwa [Int.mul_ediv_add_emod h k] at h3
  · refine Int.dvd_gcd ?_ (Int.gcd_dvd_right _ _)
    have h1 := Int.gcd_dvd_left h k
    have h2 := Int.gcd_dvd_right h k
    have h3 := Int.dvd_sub h1 (Int.dvd_trans h2 (Int.dvd_mul_right k (h / k)))
    rwa [show h - k * (h / k) = h % k by have := Int.mul_ediv_add_emod h k; omega] at h3
theorem code_open {h k m : Int} (h0 : codeOf h k m = 0) : (-1000000000 ≤ h ∧ h ≤ 1000000000) ∧ (1 ≤ k ∧ k ≤ m) ∧ Int.gcd h k = 1 := by
  obtain ⟨h1, h2⟩ := codeOf_zero h0
  exact ⟨(codeB_iff.1 h1).1, (codeB_iff.1 h1).2, by exact_mod_cast h2⟩
theorem code_shut {h k m : Int} (h1 : -1000000000 ≤ h) (h2 : h ≤ 1000000000) (k1 : 1 ≤ k) (k2 : k ≤ m) (hg : Int.gcd h k = 1) : codeOf h k m = 0 := by
  have e : codeB h k m = true := codeB_iff.2 ⟨⟨h1, h2⟩, k1, k2⟩
  have e2 : (Int.gcd h k : Int) = 1 := by exact_mod_cast hg
  unfold codeOf
  rw [if_pos e, if_pos e2]
theorem ded_eq {h k : Int} (h0 : codeOf h k 20000 = 0) : dedRes h k = ((fx (lZ h k) (12 * k), fy (lZ h k) (12 * k)), 0) := by simp [dedRes, h0]
theorem ded_code (h k : Int) : (dedRes h k).2 = codeOf h k 20000 := by unfold dedRes; split <;> simp_all
/-- Sums depend on the rest alone. -/
theorem ded_rest {h k : Int} (h0 : codeOf h k 20000 = 0) : dedRes (h % k) k = dedRes h k := by
  obtain ⟨-, ⟨k1, k2⟩, hg⟩ := code_open h0
  have a0 := Int.emod_nonneg h (show k ≠ 0 by omega)
  have a1 := Int.emod_lt_of_pos h (show 0 < k by omega)
  rw [ded_eq h0, ded_eq (code_shut (by omega) (by omega) k1 k2 (by rw [gcd_rest]; exact hg)), lZ_mod (h := h) (h' := h % k) ⟨-(h / k), by rw [Int.mul_neg]; have := Int.mul_ediv_add_emod h k; omega⟩]
theorem ded_neg {h k : Int} (h0 : codeOf h k 20000 = 0) : dedRes (-h) k = ((-(dedRes h k).1.1, (dedRes h k).1.2), 0) := by
  obtain ⟨hh, ⟨k1, k2⟩, hg⟩ := code_open h0
  rw [ded_eq h0, ded_eq (code_shut (by omega) (by omega) k1 k2 (by rw [gcd_neg1]; exact hg)), lZ_neg (by omega) hg, fx_neg, fy_neg]
/-- Equal fractions. -/
theorem fx_cross {p q p' q' : Int} (hq : 0 < q) (hq' : 0 < q') (e : p * q' = p' * q) : fx p q = fx p' q' ∧ fy p q = fy p' q' := by
  have a1 := fx_scale (m := q') (p := p) (q := q) hq'
  have a2 := fy_scale (m := q') (p := p) (q := q) hq'
  have b1 := fx_scale (m := q) (p := p') (q := q') hq
  have b2 := fy_scale (m := q) (p := p') (q := q') hq
  have e1 : q' * p = q * p' := by rw [Int.mul_comm q', e, Int.mul_comm]
  have e2 : q' * q = q * q' := Int.mul_comm _ _
  rw [← a1, ← a2, ← b1, ← b2, e1, e2]
  exact ⟨rfl, rfl⟩
theorem fx_fy {p q : Int} (hq : 0 < q) : fx p q * q = p * fy p q ∧ 0 < fy p q := by
  have g := gcd_pos_right (p := p) hq
  have d1 : (Int.gcd p q : Int) * fx p q = p := Int.mul_tdiv_cancel' (Int.gcd_dvd_left p q)
  have d2 : (Int.gcd p q : Int) * fy p q = q := Int.mul_tdiv_cancel' (Int.gcd_dvd_right p q)
  generalize fx p q = X at *
  generalize fy p q = Y at *
  generalize (Int.gcd p q : Int) = G at *
  subst d1
  refine ⟨by rw [← d2]; grind, ?_⟩
  rcases Int.lt_or_le 0 Y with h | h
  · exact h
  · have h3 : G * Y ≤ 0 := Int.mul_nonpos_of_nonneg_of_nonpos (by omega) h
    omega
theorem ded_zero {h k : Int} (h0 : (dedRes h k).2 = 0) : codeOf h k 20000 = 0 := by rw [← ded_code]; exact h0
theorem ded_call_rest {h k : Int} (h0 : (dedRes h k).2 = 0) (w : World) :
    Calls Try.prog 20 #[(.int .i64 (h % k)), (.int .i64 k)] w fun e w' => e = .returned (.tuple #[(.agg #[.int .i64 ((dedRes h k).1.1), .int .i64 ((dedRes h k).1.2)]), (.int .i64 0)]) ∧ Below w.heap.size w w' := by
  have e := ded_rest (ded_zero h0)
  have h1 := DedekindSum_any (h % k) k w
  rw [e, h0] at h1
  exact h1
theorem ded_call_neg {h k : Int} (h0 : (dedRes h k).2 = 0) (w : World) :
    Calls Try.prog 20 #[(.int .i64 (-h)), (.int .i64 k)] w fun e w' => e = .returned (.tuple #[(.agg #[.int .i64 (-(dedRes h k).1.1), .int .i64 ((dedRes h k).1.2)]), (.int .i64 0)]) ∧ Below w.heap.size w w' := by
  have e := ded_neg (ded_zero h0)
  have h1 := DedekindSum_any (-h) k w
  rw [e] at h1
  exact h1
/-- The rest as the Go text reckons it. -/
theorem go_rest {h k : Int} (hk : 0 < k) : (-k < h.tmod k ∧ h.tmod k < k) ∧ (h.tmod k + k) % k = h % k := by
  have h1 := Int.tmod_lt_of_pos h hk
  have h2 := Int.lt_tmod_of_pos h hk
  refine ⟨⟨h2, h1⟩, ?_⟩
  rw [Int.add_emod_right]
  rcases Int.le_total 0 h with h3 | h3
  · rw [Int.tmod_eq_emod_of_nonneg h3, Int.emod_emod]
  · have e : h.tmod k = -((-h) % k) := by rw [← Int.tmod_eq_emod_of_nonneg (show 0 ≤ -h by omega), Int.neg_tmod]; omega
    have e2 : (-((-h) % k)) % k = h % k := by
      rw [Int.emod_eq_emod_iff_emod_sub_eq_zero]
      have e3 := Int.mul_ediv_add_emod (-h) k
      rw [show -(-h % k) - h = k * ((-h) / k) by omega]
      exact Int.mul_emod_right _ _
    rw [e, e2]
theorem ded_k {h k : Int} (h0 : (dedRes h k).2 = 0) : 1 ≤ k ∧ k ≤ 20000 ∧ -1000000000 ≤ h ∧ h ≤ 1000000000 := by
  obtain ⟨h1, h2, -⟩ := code_open (ded_zero h0)
  omega
theorem ded_bd {h k : Int} (h0 : (dedRes h k).2 = 0) : -26000000000000 ≤ (dedRes h k).1.1 ∧ (dedRes h k).1.1 ≤ 26000000000000 := by
  have hc := ded_zero h0
  obtain ⟨-, ⟨k1, k2⟩, hg⟩ := code_open hc
  rw [ded_eq hc]
  have hz := lZ_bd k1 k2 hg
  exact tdiv_bdB (x := lZ h k) (g := (Int.gcd (lZ h k) (12 * k) : Int)) (B := 26000000000000) hz.1 hz.2
/-- Both sums of two numbers go together. -/
theorem both_sums {a b : Int} (ha : codeOf a b 20000 = 0) (hb : codeOf b a 20000 = 0) (a1 : 1 ≤ a) :
    fx ((dedRes a b).1.1 * (dedRes b a).1.2 + (dedRes b a).1.1 * (dedRes a b).1.2) ((dedRes a b).1.2 * (dedRes b a).1.2) = fx (a * a + b * b + 1 - 3 * a * b) (12 * a * b) ∧
    fy ((dedRes a b).1.1 * (dedRes b a).1.2 + (dedRes b a).1.1 * (dedRes a b).1.2) ((dedRes a b).1.2 * (dedRes b a).1.2) = fy (a * a + b * b + 1 - 3 * a * b) (12 * a * b) ∧
    0 < (dedRes a b).1.2 ∧ 0 < (dedRes b a).1.2 := by
  obtain ⟨-, ⟨b1, -⟩, hg⟩ := code_open ha
  rw [ded_eq ha, ded_eq hb]
  simp only
  have r := recip (show 0 < a by omega) (show 0 < b by omega) hg
  obtain ⟨x1, x2⟩ := fx_fy (p := lZ a b) (q := 12 * b) (by omega)
  obtain ⟨y1, y2⟩ := fx_fy (p := lZ b a) (q := 12 * a) (by omega)
  generalize fx (lZ a b) (12 * b) = x0 at *
  generalize fy (lZ a b) (12 * b) = xq at *
  generalize fx (lZ b a) (12 * a) = y0 at *
  generalize fy (lZ b a) (12 * a) = yq at *
  generalize lZ a b = L at *
  generalize lZ b a = M at *
  have hab : 0 < 12 * a * b := Int.mul_pos (by omega) (by omega)
  have h := fx_cross (p := x0 * yq + y0 * xq) (q := xq * yq) (p' := a * a + b * b + 1 - 3 * a * b) (q' := 12 * a * b) (Int.mul_pos x2 y2) hab (by
    rw [show a * a + b * b + 1 - 3 * a * b = a * L + b * M by rw [r]; grind]
    have e1 : x0 * (12 * b) * (a * yq) = L * xq * (a * yq) := by rw [x1]
    have e2 : y0 * (12 * a) * (b * xq) = M * yq * (b * xq) := by rw [y1]
    grind)
  exact ⟨h.1, h.2, x2, y2⟩
/-- Small terms of drawn sums. -/
theorem ded_small {a b : Int} (ha : codeOf a b 20000 = 0) (b1 : b ≤ 300) : -26000000000000 ≤ (dedRes a b).1.1 ∧ (dedRes a b).1.1 ≤ 26000000000000 ∧ (dedRes a b).1.2 ≤ 3600 := by
  obtain ⟨-, ⟨k1, k2⟩, hg⟩ := code_open ha
  rw [ded_eq ha]
  have h := lZ_bd k1 k2 hg
  have hx := tdiv_bdB (x := lZ a b) (g := (Int.gcd (lZ a b) (12 * b) : Int)) (B := 26000000000000) h.1 h.2
  have hy := tdiv_bdB (x := 12 * b) (g := (Int.gcd (lZ a b) (12 * b) : Int)) (B := 3600) (by omega) (by omega)
  exact ⟨hx.1, hx.2, hy.2⟩
theorem rec_code {a b : Int} (h : (recRes a b).2 = 0) : (1 ≤ a ∧ a ≤ 20000) ∧ codeOf a b 20000 = 0 ∧ codeOf b a 20000 = 0 ∧ recRes a b = ((fx (a * a + b * b + 1 - 3 * a * b) (12 * a * b), fy (a * a + b * b + 1 - 3 * a * b) (12 * a * b)), 0) := by
  unfold recRes at h ⊢
  split at h
  · rename_i h1
    obtain ⟨a1, a2⟩ := inB_iff.1 h1
    split at h
    · rename_i h2
      obtain ⟨hh, ⟨k1, k2⟩, hg⟩ := code_open h2
      exact ⟨⟨a1, a2⟩, h2, code_shut (by omega) (by omega) a1 a2 (by rw [Int.gcd_comm]; exact hg), by simp [h1, h2]⟩
    · rename_i h2
      exact absurd h h2
  · simp at h
/-- What the law does with both sums of two small numbers. -/
structure RecUse (p q U V X Y X' Y' : Int) : Prop where
  one : ∀ w, Calls Try.prog 20 #[(.int .i64 p), (.int .i64 q)] w fun e w' => e = .returned (.tuple #[(.agg #[.int .i64 X, .int .i64 Y]), (.int .i64 0)]) ∧ Below w.heap.size w w'
  two : ∀ w, Calls Try.prog 20 #[(.int .i64 q), (.int .i64 p)] w fun e w' => e = .returned (.tuple #[(.agg #[.int .i64 X', .int .i64 Y']), (.int .i64 0)]) ∧ Below w.heap.size w w'
  sum : (∀ w, Calls Try.prog 44 #[(.int .i64 (X * Y' + X' * Y)), (.int .i64 (Y * Y'))] w fun e w' => e = .returned (.tuple #[(.agg #[.int .i64 U, .int .i64 V]), (.int .i64 0)]) ∧ Below w.heap.size w w') ∨
    ∃ C : Int, C ≠ 0 ∧ ∀ w, Calls Try.prog 44 #[(.int .i64 (X * Y' + X' * Y)), (.int .i64 (Y * Y'))] w fun e w' => e = .returned (.tuple #[(.agg #[.int .i64 0, .int .i64 0]), (.int .i64 C)]) ∧ Below w.heap.size w w'
  m0 : -93600000000000000 ≤ X * Y'
  m1 : X * Y' ≤ 93600000000000000
  n0 : -93600000000000000 ≤ X' * Y
  n1 : X' * Y ≤ 93600000000000000
  r0 : 0 ≤ Y * Y'
  r1 : Y * Y' ≤ 12960000
theorem rec_use {p q : Int} (h : (recRes p q).2 = 0) (p3 : p ≤ 300) (q3 : q ≤ 300) : ∃ X Y X' Y', RecUse p q (recRes p q).1.1 (recRes p q).1.2 X Y X' Y' := by
  obtain ⟨⟨a1, a2⟩, c1, c2, hr⟩ := rec_code h
  obtain ⟨s1, s2, s3, s4⟩ := both_sums c1 c2 a1
  obtain ⟨x1, x2, x3⟩ := ded_small c1 q3
  obtain ⟨y1, y2, y3⟩ := ded_small c2 p3
  have d1 := ded_code p q
  have d2 := ded_code q p
  rw [c1] at d1
  rw [c2] at d2
  have H1 := DedekindSum_any p q
  have H2 := DedekindSum_any q p
  rw [hr]
  simp only
  rw [← s1, ← s2]
  rw [d1] at H1
  rw [d2] at H2
  generalize (dedRes p q).1.1 = X at *
  generalize (dedRes p q).1.2 = Y at *
  generalize (dedRes q p).1.1 = X' at *
  generalize (dedRes q p).1.2 = Y' at *
  have m := mul_bd (a := X) (b := Y') (A := 26000000000000) (B := 3600) x1 x2 (by omega) y3
  have n := mul_bd (a := X') (b := Y) (A := 26000000000000) (B := 3600) y1 y2 (by omega) x3
  have r := mul_bd (a := Y) (b := Y') (A := 3600) (B := 3600) (by omega) x3 (by omega) y3
  have r0 : 0 < Y * Y' := Int.mul_pos s3 s4
  have HF := fun w => FractionOf_any (X * Y' + X' * Y) (Y * Y') w r0 (by omega) (by omega) (by omega)
  refine ⟨X, Y, X', Y', H1, H2, ?_, by omega, by omega, by omega, by omega, by omega, by omega⟩
  by_cases he : (entB (X * Y' + X' * Y) && entB (Y * Y')) = true
  · by_cases he2 : (entB (fx (X * Y' + X' * Y) (Y * Y')) && entB (fy (X * Y' + X' * Y) (Y * Y'))) = true
    · rw [show fofRes (X * Y' + X' * Y) (Y * Y') = ((fx (X * Y' + X' * Y) (Y * Y'), fy (X * Y' + X' * Y) (Y * Y')), 0) by simp only [fofRes, fracRes, he, he2, if_true]] at HF
      exact .inl HF
    · rw [show fofRes (X * Y' + X' * Y) (Y * Y') = ((0, 0), 3) by simp only [fofRes, fracRes, he, he2, if_true]; rfl] at HF
      exact .inr ⟨3, by omega, HF⟩
  · rw [show fofRes (X * Y' + X' * Y) (Y * Y') = ((0, 0), 2) by simp only [fofRes, he]; rfl] at HF
    exact .inr ⟨2, by omega, HF⟩
/-- Members of the list have the same sum. -/
theorem code_100 {c d : Int} (h : codeOf c d 100 = 0) : codeOf c d 20000 = 0 := by
  obtain ⟨hh, ⟨k1, k2⟩, hg⟩ := code_open h
  exact code_shut hh.1 hh.2 k1 (by omega) hg
theorem unitsL_in {k x : Int} {m : Nat} (h1 : 1 ≤ x) (h2 : x ≤ m) (hg : Int.gcd x k = 1) : x ∈ unitsL k m := by
  induction m with
  | zero => omega
  | succ m ih =>
    unfold unitsL
    rcases Int.lt_or_le (m : Int) x with h | h
    · obtain rfl : x = (m : Int) + 1 := by omega
      have hg2 : (Int.gcd ((m : Int) + 1) k : Int) = 1 := by exact_mod_cast hg
      simp [hg2]
    · exact List.mem_append_left _ (ih h)
theorem equal_member {c d x : Int} {m : Nat} (h : codeOf c d 100 = 0) (hm : (m : Int) ≤ d) (hx : x ∈ equalL c d m) : dedRes x d = dedRes c d ∧ codeOf x d 20000 = 0 := by
  obtain ⟨hh, ⟨k1, k2⟩, hg⟩ := code_open h
  obtain ⟨hu, he⟩ := List.mem_filter.1 hx
  obtain ⟨u1, u2, u3⟩ := unitsL_mem hu
  have e : lZ x d = lZ c d := by simpa [eqP] using he
  have hc : codeOf x d 20000 = 0 := code_shut (by omega) (by omega) k1 (by omega) (by exact_mod_cast u3)
  rw [ded_eq hc, ded_eq (code_100 h), e]
  exact ⟨rfl, hc⟩
/-- Inverses are in the list. -/
theorem equal_inv {c d i : Int} (h : codeOf c d 100 = 0) (i1 : 1 ≤ i) (i2 : i ≤ d) (hi : i * c % d = 1 % d) : i ∈ equalL c d d.toNat := by
  obtain ⟨hh, ⟨k1, k2⟩, hg⟩ := code_open h
  have hgi : Int.gcd i d = 1 := by
    refine Nat.dvd_one.1 ?_
    have h1 := Int.gcd_dvd_left i d
    have h2 := Int.gcd_dvd_right i d
    have h3 : d ∣ i * c - 1 := Int.dvd_of_emod_eq_zero (Int.emod_eq_emod_iff_emod_sub_eq_zero.1 hi)
    have h4 := Int.dvd_sub (Int.dvd_trans h1 (Int.dvd_mul_right i c)) (Int.dvd_trans h2 h3)
    rw [show i * c - (i * c - 1) = 1 by omega] at h4
    exact_mod_cast h4
  refine List.mem_filter.2 ⟨unitsL_in i1 (by omega) hgi, ?_⟩
  have e := fourZ_inv (h := c) (i := i) (k := d) (by omega) hg (by rw [Int.mul_comm]; exact hi)
  have e1 := lZ_eq (h := i) (k := d) (by omega) hgi
  have e2 := lZ_eq (h := c) (k := d) (by omega) hg
  have : lZ i d = lZ c d := Int.eq_of_mul_eq_mul_left (show d ≠ 0 by omega) (by rw [e1, e2, e])
  simp [eqP, this]
/-- What the law does with a list of numbers with equal sums. -/
structure EqualUse (c d : Int) (xs : List Int) : Prop where
  d0 : 1 ≤ d
  d1 : d ≤ 100
  c0 : -1000000000 ≤ c
  c1 : c ≤ 1000000000
  sum : ∃ X Y, (∀ w, Calls Try.prog 20 #[(.int .i64 c), (.int .i64 d)] w fun e w' => e = .returned (.tuple #[(.agg #[.int .i64 X, .int .i64 Y]), (.int .i64 0)]) ∧ Below w.heap.size w w') ∧
    ∀ x ∈ xs, ∀ w, Calls Try.prog 20 #[(.int .i64 x), (.int .i64 d)] w fun e w' => e = .returned (.tuple #[(.agg #[.int .i64 X, .int .i64 Y]), (.int .i64 0)]) ∧ Below w.heap.size w w'
  all : ∀ i, 1 ≤ i → i ≤ d → (i * c) % d = 1 % d → i ∈ xs
theorem equal_use {c d : Int} (h : (equalRes c d).c = 0) : EqualUse c d (equalRes c d).xs := by
  have h0 : codeOf c d 100 = 0 := by
    unfold equalRes at h
    split at h
    · assumption
    · exact h
  obtain ⟨hh, ⟨k1, k2⟩, hg⟩ := code_open h0
  have hx : (equalRes c d).xs = equalL c d d.toNat := by simp [equalRes, h0]
  have hc := code_100 h0
  have d1 := ded_code c d
  rw [hc] at d1
  refine ⟨k1, k2, hh.1, hh.2, ⟨(dedRes c d).1.1, (dedRes c d).1.2, ?_, ?_⟩, ?_⟩
  · have H := DedekindSum_any c d
    rw [d1] at H
    exact H
  · intro x hx2
    rw [hx] at hx2
    obtain ⟨e, -⟩ := equal_member h0 (by omega) hx2
    have H := DedekindSum_any x d
    rw [e, d1] at H
    exact H
  · intro i i1 i2 hi
    rw [hx]
    exact equal_inv h0 i1 i2 hi
/-- The product with an inverse as the Go text reckons it. -/
theorem go_inv {i c d : Int} (hd : 0 < d) : ((i * c.tmod d).tmod d + d) % d = (i * c) % d ∧ (-d < (i * c.tmod d).tmod d ∧ (i * c.tmod d).tmod d < d) := by
  obtain ⟨h1, h2⟩ := go_rest (h := i * c.tmod d) hd
  refine ⟨?_, h1⟩
  rw [h2, Int.mul_emod]
  have e : (c.tmod d) % d = c % d := by
    have h3 := (go_rest (h := c) hd).2
    rwa [Int.add_emod_right] at h3
  rw [e, ← Int.mul_emod]
end Go.Proofs.Ytkhlgphmimddhaa
