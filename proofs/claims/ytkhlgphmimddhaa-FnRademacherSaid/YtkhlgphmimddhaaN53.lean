/- Plain: the first number of a product: Rademacher's law. -/
import Derived.Test.YtkhlgphmimddhaaN14
namespace Go.Proofs.Ytkhlgphmimddhaa
def sgP (n : Int) : Int := if n < 0 then -1 else if 0 < n then 1 else 0
theorem sg_cases (n : Int) : (n < 0 ∧ sgP n = -1) ∨ (n = 0 ∧ sgP n = 0) ∨ (0 < n ∧ sgP n = 1) := by
  unfold sgP
  split
  · exact .inl ⟨by assumption, rfl⟩
  · split
    · exact .inr (.inr ⟨by assumption, rfl⟩)
    · exact .inr (.inl ⟨by omega, rfl⟩)
theorem sg_abs (n : Int) : n * sgP n = (n.natAbs : Int) := by
  rcases sg_cases n with ⟨h, e⟩ | ⟨h, e⟩ | ⟨h, e⟩ <;> rw [e] <;> omega
theorem sg_mul (m n : Int) : sgP (m * n) = sgP m * sgP n := by
  rcases sg_cases m with ⟨h1, e1⟩ | ⟨h1, e1⟩ | ⟨h1, e1⟩ <;> rcases sg_cases n with ⟨h2, e2⟩ | ⟨h2, e2⟩ | ⟨h2, e2⟩ <;> rw [e1, e2]
  all_goals first
    | (subst h1; simp [sgP]; done)
    | (subst h2; simp [sgP]; done)
    | skip
  · have := Int.mul_pos_of_neg_of_neg h1 h2
    unfold sgP; rw [if_neg (by omega), if_pos this]; rfl
  · have := Int.mul_neg_of_neg_of_pos h1 h2
    unfold sgP; rw [if_pos this]; rfl
  · have := Int.mul_neg_of_pos_of_neg h1 h2
    unfold sgP; rw [if_pos this]; rfl
  · have := Int.mul_pos h1 h2
    unfold sgP; rw [if_neg (by omega), if_pos this]; rfl
theorem sg_neg (n : Int) : sgP (-n) = -sgP n := by
  rcases sg_cases n with ⟨h, e⟩ | ⟨h, e⟩ | ⟨h, e⟩ <;> rcases sg_cases (-n) with ⟨h', e'⟩ | ⟨h', e'⟩ | ⟨h', e'⟩ <;> rw [e, e'] <;> omega
theorem sg_in (n : Int) : sgP n ∈ [(-1 : Int), 0, 1] := by
  rcases sg_cases n with ⟨_, e⟩ | ⟨_, e⟩ | ⟨_, e⟩ <;> rw [e] <;> simp
set_option maxRecDepth 100000 in
theorem sg_fin : ∀ sx ∈ [(-1 : Int), 0, 1], ∀ sy ∈ [(-1 : Int), 0, 1], ∀ su ∈ [(-1 : Int), 0, 1], ∀ sv ∈ [(-1 : Int), 0, 1], ∀ sc ∈ [(-1 : Int), 0, 1],
    (sx ≠ 0 ∨ sy ≠ 0) → (su ≠ 0 ∨ sv ≠ 0) → (sy * su < sx * sv → sc = 1) → (sx * sv < sy * su → sc = -1) → (sx * sv = 0 → sy * su = 0 → sc = 0) → sc * su * sx + sx * sy = su * sv + sc * sv * sy := by decide +kernel
theorem sg_zero {n : Int} : sgP n = 0 ↔ n = 0 := by
  rcases sg_cases n with ⟨h, e⟩ | ⟨h, e⟩ | ⟨h, e⟩ <;> rw [e] <;> omega
/-- The signs of three matrices and S go together. -/
theorem sg_law {x y u v c : Int} (hc : c = x * v - y * u) (h1 : ¬ (x = 0 ∧ y = 0)) (h2 : ¬ (u = 0 ∧ v = 0)) :
    sgP c * sgP u * sgP x + sgP x * sgP y = sgP u * sgP v + sgP c * sgP v * sgP y := by
  refine sg_fin _ (sg_in x) _ (sg_in y) _ (sg_in u) _ (sg_in v) _ (sg_in c) (by rw [Ne, Ne, sg_zero, sg_zero]; omega) (by rw [Ne, Ne, sg_zero, sg_zero]; omega) ?_ ?_ ?_
  all_goals
    rw [← sg_mul, ← sg_mul]
    generalize x * v = p at *
    generalize y * u = q at *
    rcases sg_cases p with ⟨hp, ep⟩ | ⟨hp, ep⟩ | ⟨hp, ep⟩ <;> rcases sg_cases q with ⟨hq, eq⟩ | ⟨hq, eq⟩ | ⟨hq, eq⟩ <;> rcases sg_cases c with ⟨hc', ec⟩ | ⟨hc', ec⟩ | ⟨hc', ec⟩ <;> rw [ep, eq, ec] <;> omega
/-! ### Sums of -h -/
theorem fourN_neg {h h' k : Nat} (hk : 0 < k) (hc : Nat.Coprime h k) (hh : (h + h') % k = 0) : fourN h' k = -fourN h k := by
  have key : S k (fun i => gT h' k i + gT h k i) = S k (fun i => if i = 0 then 2 * ((k : Int) * k) else 0) := S_congr fun i hi => by
    by_cases e : i = 0
    · subst e
      rw [if_pos rfl]
      unfold gT
      simp only [Nat.mul_zero, Nat.zero_mod]
      grind
    · rw [if_neg e]
      have h1 : (h * i) % k ≠ 0 := fun e1 => by
        have h2 : k ∣ h * i := Nat.dvd_of_mod_eq_zero e1
        have h3 : k ∣ i := (Nat.Coprime.symm hc).dvd_of_dvd_mul_left h2
        have := Nat.le_of_dvd (by omega) h3
        omega
      have h2 : ((h * i) % k + (h' * i) % k) % k = 0 := by
        rw [← Nat.add_mod, ← Nat.add_mul, Nat.mul_mod, hh, Nat.zero_mul, Nat.zero_mod]
      have h3 := Nat.mod_lt (h * i) hk
      have h4 := Nat.mod_lt (h' * i) hk
      have h5 : (h * i) % k + (h' * i) % k = k := by
        by_cases hlt : (h * i) % k + (h' * i) % k < k
        · rw [Nat.mod_eq_of_lt hlt] at h2; omega
        · have h6 := Nat.mod_eq_sub_mod (show k ≤ (h * i) % k + (h' * i) % k by omega)
          rw [Nat.mod_eq_of_lt (show (h * i) % k + (h' * i) % k - k < k by omega)] at h6
          omega
      unfold gT
      generalize (h * i) % k = r at *
      generalize (h' * i) % k = r' at *
      have e1 : (r' : Int) = k - r := by omega
      rw [e1]
      grind
  rw [S_add, S_pick hk] at key
  have e1 := part_end h k
  have e2 := part_end h' k
  omega
theorem cop_of_gcd {h k : Int} (hk : 0 < k) (hg : Int.gcd h k = 1) : Nat.Coprime (h % k).toNat k.toNat := gcd_cop hk hg
theorem fourZ_neg {h k : Int} (hk : 0 < k) (hg : Int.gcd h k = 1) : fourZ (-h) k = -fourZ h k := by
  unfold fourZ
  refine fourN_neg (by omega) (gcd_cop hk hg) ?_
  have h1 := Int.emod_nonneg h (show k ≠ 0 by omega)
  have h2 := Int.emod_nonneg (-h) (show k ≠ 0 by omega)
  have h3 : ((h % k + (-h) % k) % k) = 0 := by rw [← Int.add_emod, show h + -h = 0 by omega, Int.zero_emod]
  have e : (((h % k).toNat + ((-h) % k).toNat : Nat) : Int) % (k.toNat : Nat) = 0 := by
    rw [show (((h % k).toNat + ((-h) % k).toNat : Nat) : Int) = h % k + (-h) % k by omega, show ((k.toNat : Nat) : Int) = k by omega]
    exact h3
  exact_mod_cast e
theorem lZ_neg {h k : Int} (hk : 0 < k) (hg : Int.gcd h k = 1) : lZ (-h) k = -lZ h k := by
  have e1 := lZ_eq hk hg
  have e2 := lZ_eq (h := -h) hk (by rw [Int.neg_gcd]; exact hg)
  rw [fourZ_neg hk hg] at e2
  refine Int.eq_of_mul_eq_mul_left (show k ≠ 0 by omega) ?_
  rw [e2, Int.mul_neg k, e1]; omega
theorem gcd_absR (h k : Int) : Int.gcd h (k.natAbs : Int) = Int.gcd h k := by simp [Int.gcd]
theorem gcd_absL (h k : Int) : Int.gcd (h.natAbs : Int) k = Int.gcd h k := by simp [Int.gcd]
theorem lZ_mod {h h' k : Int} (h1 : k ∣ h' - h) : lZ h' k = lZ h k := by
  unfold lZ
  rw [Int.emod_eq_emod_iff_emod_sub_eq_zero.2 (Int.emod_eq_zero_of_dvd h1)]
theorem lZ_one (h : Int) : lZ h 1 = 0 := by
  unfold lZ lN
  rw [show (1 : Int).toNat = 1 from rfl, fourN_one]; rfl
theorem lZ_nat {h k : Nat} : lZ (h : Int) (k : Int) = lN h k := by
  unfold lZ lN
  rw [show (((h : Int)) % (k : Int)).toNat = h % k by omega, Int.toNat_natCast, fourN_mod]
theorem recip {h k : Int} (hh : 0 < h) (hk : 0 < k) (hg : Int.gcd h k = 1) : h * lZ h k + k * lZ k h = h * h + k * k + 1 - 3 * (h * k) := by
  obtain ⟨H, rfl⟩ := Int.eq_ofNat_of_zero_le (show 0 ≤ h by omega)
  obtain ⟨K, rfl⟩ := Int.eq_ofNat_of_zero_le (show 0 ≤ k by omega)
  have hc : Nat.Coprime H K := by simpa [Nat.Coprime] using hg
  have := lN_rec (show 0 < H by omega) (show 0 < K by omega) hc
  rw [lZ_nat, lZ_nat, this]
  grind
/-- The same with signs. -/
theorem recip_sg {c d : Int} (hc : c ≠ 0) (hd : d ≠ 0) (hg : Int.gcd d c = 1) : d * lZ d (c.natAbs : Int) + c * lZ c (d.natAbs : Int) = d * d + c * c + 1 - 3 * (sgP c * sgP d * (c * d)) := by
  have hg1 : Int.gcd d (c.natAbs : Int) = 1 := by rw [gcd_absR]; exact hg
  have hg2 : Int.gcd c (d.natAbs : Int) = 1 := by rw [gcd_absR, Int.gcd_comm]; exact hg
  have r := recip (h := (d.natAbs : Int)) (k := (c.natAbs : Int)) (by omega) (by omega) (by rw [gcd_absL]; exact hg1)
  have key : ∀ {x k : Int}, 0 < k → x ≠ 0 → Int.gcd x k = 1 → (x.natAbs : Int) * lZ (x.natAbs : Int) k = x * lZ x k := by
    intro x k hk hx hxg
    rcases (show (x.natAbs : Int) = x ∨ (x.natAbs : Int) = -x by omega) with e | e <;> rw [e]
    rw [lZ_neg hk hxg, Int.neg_mul_neg]
  rw [key (by omega) hd hg1, key (by omega) hc hg2] at r
  have e1 : (d.natAbs : Int) * (d.natAbs : Int) = d * d := Int.natAbs_mul_self' d
  have e2 : (c.natAbs : Int) * (c.natAbs : Int) = c * c := Int.natAbs_mul_self' c
  have e3 : (d.natAbs : Int) * (c.natAbs : Int) = sgP c * sgP d * (c * d) := by rw [← sg_abs, ← sg_abs]; grind
  rw [r, e1, e2, e3]
/-! ### The first number -/
def phi (a b c d : Int) : Int := if c = 0 then b * d else sgP c * (a + d - lZ d (c.natAbs : Int)).tdiv (c.natAbs : Int)
theorem gcd_det {a b c d : Int} (h : a * d - b * c = 1) : Int.gcd d c = 1 := by
  refine Nat.dvd_one.1 ?_
  have h1 := Int.gcd_dvd_left d c
  have h2 := Int.gcd_dvd_right d c
  have h3 := Int.dvd_sub (Int.dvd_trans h1 (Int.dvd_mul_left a d)) (Int.dvd_trans h2 (Int.dvd_mul_left b c))
  rw [h] at h3
  exact Int.ofNat_dvd.1 (by simpa using h3)
/-- The first number is whole. -/
theorem phi_dvd {a b c d : Int} (h : a * d - b * c = 1) (hc : c ≠ 0) : (c.natAbs : Int) ∣ a + d - lZ d (c.natAbs : Int) := by
  have hg := gcd_det h
  have hg1 : Int.gcd d (c.natAbs : Int) = 1 := by rw [gcd_absR]; exact hg
  have hkc : (c.natAbs : Int) ∣ c := Int.natAbs_dvd.2 (Int.dvd_refl c)
  have had : (c.natAbs : Int) ∣ a * d - 1 := by rw [show a * d - 1 = b * c by omega]; exact Int.dvd_trans hkc (Int.dvd_mul_left _ _)
  have k0 : 0 < (c.natAbs : Int) := by omega
  generalize (c.natAbs : Int) = k at *
  by_cases hk1 : k = 1
  · subst hk1; exact Int.one_dvd _
  have hr0 := Int.emod_nonneg d (show k ≠ 0 by omega)
  have hr1 := Int.emod_lt_of_pos d k0
  have hgm := gcd_cop k0 hg1
  have hrp : 0 < d % k := by
    rcases Int.lt_or_eq_of_le hr0 with h2 | h2
    · exact h2
    · exfalso
      rw [← h2] at hgm
      have : k.toNat = 1 := by unfold Nat.Coprime at hgm; simpa using hgm
      omega
  have r := lN_rec (h := (d % k).toNat) (k := k.toNat) (by omega) (by omega) hgm
  have e1 : (((d % k).toNat : Nat) : Int) = d % k := by omega
  have e2 : ((k.toNat : Nat) : Int) = k := by omega
  rw [e1, e2] at r
  have el : lN (d % k).toNat k.toNat = lZ d k := rfl
  rw [el] at r
  obtain ⟨t, ht⟩ := had
  have hd := Int.mul_ediv_add_emod d k
  generalize d % k = x at *
  generalize d / k = q at *
  generalize lN k.toNat x.toNat = y at *
  generalize lZ d k = L at *
  have hx : d - x = k * q := by omega
  have h1 : d * L - d * d - 1 = k * (k - 3 * x - y + q * (L - d - x)) := by
    have e3 : d * L - d * d - 1 - (x * L - x * x - 1) = (d - x) * (L - d - x) := by grind
    rw [hx] at e3
    have e4 : x * L - x * x - 1 = k * (k - 3 * x - y) := by rw [r]; grind
    rw [Int.mul_add k]
    have e5 : k * q * (L - d - x) = k * (q * (L - d - x)) := Int.mul_assoc _ _ _
    omega
  generalize k - 3 * x - y + q * (L - d - x) = s at h1
  have had2 : a * d = k * t + 1 := by omega
  have h2 : a * (d * L - d * d - 1) = a * (k * s) := by rw [h1]
  have e6 : a * (d * L - d * d - 1) = (a * d) * (L - d) - a := by grind
  rw [e6, had2] at h2
  refine ⟨t * (L - d) - a * s, ?_⟩
  have e7 : (k * t + 1) * (L - d) = k * (t * (L - d)) + (L - d) := by grind
  have e8 : a * (k * s) = k * (a * s) := by grind
  rw [e7, e8] at h2
  rw [Int.mul_sub k]
  omega
theorem phi_eq {a b c d : Int} (h : a * d - b * c = 1) (hc : c ≠ 0) : c * phi a b c d = a + d - lZ d (c.natAbs : Int) := by
  obtain ⟨q, hq⟩ := phi_dvd h hc
  unfold phi
  rw [if_neg hc, hq, Int.mul_tdiv_cancel_left _ (show (c.natAbs : Int) ≠ 0 by omega), ← Int.mul_assoc, sg_abs]
theorem phi_of {a b c d x : Int} (h : a * d - b * c = 1) (hc : c ≠ 0) (hx : c * x = a + d - lZ d (c.natAbs : Int)) : phi a b c d = x :=
  Int.eq_of_mul_eq_mul_left hc ((phi_eq h hc).trans hx.symm)
theorem phi_T {a b c d : Int} (h : a * d - b * c = 1) (k : Int) : phi a (b + k * a) c (d + k * c) = phi a b c d + k := by
  by_cases hc : c = 0
  · subst hc
    unfold phi
    rw [if_pos rfl, if_pos rfl]
    have : a * d = 1 := by simpa using h
    have e : (b + k * a) * (d + k * 0) = b * d + k * (a * d) := by grind
    rw [e, this]; omega
  · refine phi_of (by rw [← h]; grind) hc ?_
    have e := phi_eq h hc
    have e2 : lZ (d + k * c) (c.natAbs : Int) = lZ d (c.natAbs : Int) := lZ_mod (by
      rw [show d + k * c - d = k * c by omega]
      exact Int.dvd_trans (Int.natAbs_dvd.2 (Int.dvd_refl c)) (Int.dvd_mul_left _ _))
    rw [e2, Int.mul_add, e]
    grind
theorem phi_neg {a b c d : Int} (h : a * d - b * c = 1) : phi (-a) (-b) (-c) (-d) = phi a b c d := by
  by_cases hc : c = 0
  · subst hc
    unfold phi
    rw [if_pos (by omega), if_pos rfl, Int.neg_mul_neg]
  · have hg1 : Int.gcd d (c.natAbs : Int) = 1 := by rw [gcd_absR]; exact gcd_det h
    refine phi_of (by rw [Int.neg_mul_neg, Int.neg_mul_neg]; exact h) (by omega) ?_
    have e := phi_eq h hc
    rw [Int.natAbs_neg, lZ_neg (by omega) hg1, Int.neg_mul, e]
    omega
theorem phi_S {a b c d : Int} (h : a * d - b * c = 1) : phi b (-a) d (-c) = phi a b c d - 3 * (sgP c * sgP d) := by
  have hdet : b * -c - -a * d = 1 := by rw [← h]; grind
  have unit : ∀ {x y : Int}, x * y = 1 → (y = 1 ∨ y = -1) ∧ x = y := by
    intro x y hxy
    have h2 := congrArg Int.natAbs hxy
    rw [Int.natAbs_mul] at h2
    have h3 : x.natAbs = 1 := Nat.eq_one_of_mul_eq_one_right h2
    have h4 : y.natAbs = 1 := Nat.eq_one_of_mul_eq_one_left h2
    rcases (show x = 1 ∨ x = -1 by omega) with rfl | rfl <;> rcases (show y = 1 ∨ y = -1 by omega) with rfl | rfl <;> simp at hxy ⊢
  by_cases hc : c = 0
  · subst hc
    have had : a * d = 1 := by simpa using h
    obtain ⟨hd, ea⟩ := unit had
    subst ea
    have e0 : sgP 0 = 0 := rfl
    rw [e0]
    have hn : (a.natAbs : Int) = 1 := by omega
    refine phi_of hdet (by omega) ?_
    unfold phi
    rw [if_pos rfl, hn, lZ_one]
    have : a * (b * a - 3 * (0 * sgP a)) = b * (a * a) := by grind
    rw [this, had]; omega
  · by_cases hd : d = 0
    · subst hd
      have hbc : -b * c = 1 := by rw [Int.neg_mul]; omega
      obtain ⟨hc1, eb⟩ := unit hbc
      have e0 : sgP 0 = 0 := rfl
      rw [e0]
      have hn : (c.natAbs : Int) = 1 := by omega
      have e := phi_eq h hc
      rw [hn, lZ_one] at e
      have e1 : phi b (-a) 0 (-c) = a * c := by unfold phi; rw [if_pos rfl, Int.neg_mul_neg]
      rw [e1]
      have e2 : c * phi a b c 0 * c = a * c := by rw [e]; grind
      have e3 : c * phi a b c 0 * c = phi a b c 0 * (c * c) := by grind
      rcases hc1 with rfl | rfl <;> omega
    · have e := phi_eq h hc
      refine phi_of hdet hd ?_
      have hg := gcd_det h
      have hgc : Int.gcd c (d.natAbs : Int) = 1 := by rw [gcd_absR, Int.gcd_comm]; exact hg
      rw [lZ_neg (by omega) hgc]
      refine Int.eq_of_mul_eq_mul_left hc ?_
      have r := recip_sg hc hd hg
      generalize lZ d (c.natAbs : Int) = L at *
      generalize lZ c (d.natAbs : Int) = L' at *
      generalize phi a b c d = f at *
      have e2 : c * (d * (f - 3 * (sgP c * sgP d))) = d * (c * f) - 3 * (sgP c * sgP d * (c * d)) := by grind
      rw [e2, e]
      have e3 : 3 * (sgP c * sgP d * (c * d)) = d * d + c * c + 1 - (d * L + c * L') := by omega
      rw [e3]
      have e4 : b * c = a * d - 1 := by omega
      have e5 : c * (b + -c - -L') = b * c - c * c + c * L' := by grind
      rw [e5, e4]
      grind
/-! ### The law of products -/
structure Mt where
  a : Int
  b : Int
  c : Int
  d : Int
def Mt.det (m : Mt) : Int := m.a * m.d - m.b * m.c
def Mt.phi (m : Mt) : Int := Go.Proofs.Ytkhlgphmimddhaa.phi m.a m.b m.c m.d
def Mt.mul (m n : Mt) : Mt := ⟨m.a * n.a + m.b * n.c, m.a * n.b + m.b * n.d, m.c * n.a + m.d * n.c, m.c * n.b + m.d * n.d⟩
theorem Mt.det_mul (m n : Mt) : (m.mul n).det = m.det * n.det := by unfold Mt.det Mt.mul; simp only; grind
def Law (n : Mt) : Prop := ∀ m : Mt, m.det = 1 → (m.mul n).phi = m.phi + n.phi - 3 * (sgP m.c * sgP n.c * sgP (m.mul n).c)
theorem law_T {n : Mt} (hn : n.det = 1) (h : Law n) (k : Int) : Law ⟨n.a, n.b + k * n.a, n.c, n.d + k * n.c⟩ := by
  intro m hm
  have h1 := h m hm
  have hmn : (m.mul n).det = 1 := by rw [Mt.det_mul, hm, hn]; rfl
  have e1 : (m.mul ⟨n.a, n.b + k * n.a, n.c, n.d + k * n.c⟩) = ⟨(m.mul n).a, (m.mul n).b + k * (m.mul n).a, (m.mul n).c, (m.mul n).d + k * (m.mul n).c⟩ := by
    unfold Mt.mul; simp only [Mt.mk.injEq]; refine ⟨trivial, ?_, trivial, ?_⟩ <;> grind
  have e2 : Mt.phi ⟨n.a, n.b + k * n.a, n.c, n.d + k * n.c⟩ = n.phi + k := phi_T hn k
  rw [e1, e2]
  have e3 : Mt.phi ⟨(m.mul n).a, (m.mul n).b + k * (m.mul n).a, (m.mul n).c, (m.mul n).d + k * (m.mul n).c⟩ = (m.mul n).phi + k := phi_T hmn k
  rw [e3, h1]
  simp only
  omega
theorem law_neg {n : Mt} (hn : n.det = 1) (h : Law n) : Law ⟨-n.a, -n.b, -n.c, -n.d⟩ := by
  intro m hm
  have h1 := h m hm
  have hmn : (m.mul n).det = 1 := by rw [Mt.det_mul, hm, hn]; rfl
  have e1 : (m.mul ⟨-n.a, -n.b, -n.c, -n.d⟩) = ⟨-(m.mul n).a, -(m.mul n).b, -(m.mul n).c, -(m.mul n).d⟩ := by
    unfold Mt.mul; simp only [Mt.mk.injEq]; refine ⟨?_, ?_, ?_, ?_⟩ <;> grind
  have e2 : Mt.phi ⟨-n.a, -n.b, -n.c, -n.d⟩ = n.phi := phi_neg hn
  have e3 : Mt.phi ⟨-(m.mul n).a, -(m.mul n).b, -(m.mul n).c, -(m.mul n).d⟩ = (m.mul n).phi := phi_neg hmn
  rw [e1, e2, e3, h1]
  simp only [sg_neg]
  grind
theorem row_ne {a b c d : Int} (h : a * d - b * c = 1) : ¬ (c = 0 ∧ d = 0) := by
  rintro ⟨rfl, rfl⟩
  simp at h
theorem law_S {n : Mt} (hn : n.det = 1) (h : Law n) : Law ⟨n.b, -n.a, n.d, -n.c⟩ := by
  intro m hm
  have h1 := h m hm
  have hmn : (m.mul n).det = 1 := by rw [Mt.det_mul, hm, hn]; rfl
  have e1 : (m.mul ⟨n.b, -n.a, n.d, -n.c⟩) = ⟨(m.mul n).b, -(m.mul n).a, (m.mul n).d, -(m.mul n).c⟩ := by
    unfold Mt.mul; simp only [Mt.mk.injEq]; refine ⟨trivial, ?_, trivial, ?_⟩ <;> grind
  have e2 : Mt.phi ⟨n.b, -n.a, n.d, -n.c⟩ = n.phi - 3 * (sgP n.c * sgP n.d) := phi_S hn
  have e3 : Mt.phi ⟨(m.mul n).b, -(m.mul n).a, (m.mul n).d, -(m.mul n).c⟩ = (m.mul n).phi - 3 * (sgP (m.mul n).c * sgP (m.mul n).d) := phi_S hmn
  have hs := sg_law (x := (m.mul n).c) (y := (m.mul n).d) (u := n.c) (v := n.d) (c := m.c) (by
    unfold Mt.det at hn
    unfold Mt.mul; simp only
    have : (m.c * n.a + m.d * n.c) * n.d - (m.c * n.b + m.d * n.d) * n.c = m.c * (n.a * n.d - n.b * n.c) := by grind
    rw [this, hn]; omega) (row_ne hmn) (row_ne hn)
  rw [e1, e2, e3, h1]
  simp only
  omega
theorem law_one : Law ⟨1, 0, 0, 1⟩ := by
  intro m _
  have e1 : m.mul ⟨1, 0, 0, 1⟩ = m := by unfold Mt.mul; simp
  have e2 : sgP 0 = 0 := rfl
  have e3 : Mt.phi ⟨1, 0, 0, 1⟩ = 0 := rfl
  rw [e1, e3]
  simp only [e2]
  omega
theorem law_all : ∀ (k : Nat) (n : Mt), n.c.natAbs = k → n.det = 1 → Law n := by
  intro k
  induction k using Nat.strongRecOn with
  | ind k ih =>
    intro n hk hn
    obtain ⟨a, b, c, d⟩ := n
    unfold Mt.det at hn
    simp only at hk hn
    by_cases hc : c = 0
    · subst hc
      have had : a * d = 1 := by simpa using hn
      have h2 := congrArg Int.natAbs had
      rw [Int.natAbs_mul] at h2
      have h3 : a.natAbs = 1 := Nat.eq_one_of_mul_eq_one_right h2
      have h4 : d.natAbs = 1 := Nat.eq_one_of_mul_eq_one_left h2
      have hT := fun k => law_T (n := ⟨1, 0, 0, 1⟩) rfl law_one k
      rcases (show a = 1 ∨ a = -1 by omega) with rfl | rfl <;> rcases (show d = 1 ∨ d = -1 by omega) with rfl | rfl <;> simp at had
      · have := hT b
        simpa using this
      · have := law_neg (n := ⟨1, 0 + -b * 1, 0, 1 + -b * 0⟩) (by unfold Mt.det; simp) (hT (-b))
        simpa using this
    · have hr0 := Int.emod_nonneg d hc
      have hr1 := Int.emod_lt d hc
      have hd := Int.mul_ediv_add_emod d c
      generalize d % c = r at *
      generalize d / c = q at *
      have hdet : (b - q * a) * -c - -a * r = 1 := by
        rw [← hn, show d = c * q + r by omega]; grind
      have h1 := ih r.natAbs (by omega) ⟨b - q * a, -a, r, -c⟩ rfl hdet
      have h2 := law_S (n := ⟨b - q * a, -a, r, -c⟩) hdet h1
      simp only at h2
      have hdet2 : Mt.det ⟨-a, -(b - q * a), -c, -r⟩ = 1 := by unfold Mt.det; simp only; rw [← hdet]; grind
      have h3 := law_neg hdet2 h2
      simp only [Int.neg_neg] at h3
      have hdet3 : Mt.det ⟨a, b - q * a, c, r⟩ = 1 := by unfold Mt.det; simp only; rw [← hdet]; grind
      have h4 := law_T hdet3 h3 q
      simp only at h4
      rw [show b - q * a + q * a = b by omega, show r + q * c = d by rw [Int.mul_comm q c]; omega] at h4
      exact h4
/-- Rademacher's law. -/
theorem phi_mul {m n : Mt} (hm : m.det = 1) (hn : n.det = 1) : (m.mul n).phi = m.phi + n.phi - 3 * (sgP m.c * sgP n.c * sgP (m.mul n).c) := law_all _ n rfl hn m hm
end Go.Proofs.Ytkhlgphmimddhaa
