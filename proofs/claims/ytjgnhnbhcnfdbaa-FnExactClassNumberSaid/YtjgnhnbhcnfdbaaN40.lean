/- Plain: cycles of indefinite forms. -/
import Derived.Test.YtjgnhnbhcnfdbaaN8
import Derived.Test.YtjgnhnbhcnfdbaaN11
namespace Go.Proofs.Ytjgnhnbhcnfdbaa
/-- A reduced form of the discriminant D. -/
structure Cyc (D : Int) (f : F3) : Prop where
  d : disc f.x f.y f.z = D
  b0 : 0 < f.y
  b1 : f.y ≤ isqrt D
  lo : isqrt D + 1 ≤ 2 * (f.x.natAbs : Int) + f.y
  hi : 2 * (f.x.natAbs : Int) ≤ isqrt D + f.y
theorem cyc_of_red {D : Int} {f : F3} (hd : disc f.x f.y f.z = D) (hD : 0 < D) (h : redInd f.x f.y f.z = true) : Cyc D f := by
  obtain ⟨r0, rlo, rhi⟩ := isqrt_root (Int.le_of_lt hD)
  simp only [redInd, decide_eq_true_eq, hd] at h
  obtain ⟨h1, h2, h3, h4⟩ := h
  refine ⟨hd, h1, ?_, ?_, ?_⟩
  · have := lt_of_sq (show 0 ≤ isqrt D + 1 by omega) (Int.lt_trans h2 rhi); omega
  · have := lt_of_sq (show 0 ≤ 2 * (f.x.natAbs : Int) + f.y by omega) (Int.lt_of_le_of_lt rlo h3); omega
  · rcases h4 with h4 | h4
    · omega
    · have := lt_of_sq (show 0 ≤ isqrt D + 1 by omega) (Int.lt_trans h4 rhi); omega
theorem red_of_cyc {D : Int} {f : F3} (hD : 0 < D) (hn : isqrt D * isqrt D ≠ D) (h : Cyc D f) : redInd f.x f.y f.z = true := by
  obtain ⟨r0, rlo, rhi⟩ := isqrt_root (Int.le_of_lt hD)
  obtain ⟨hd, b0, b1, lo, hi⟩ := h
  have hlt : isqrt D * isqrt D < D := by omega
  simp only [redInd, decide_eq_true_eq, hd]
  refine ⟨b0, Int.lt_of_le_of_lt (mul_le_self (by omega) b1) hlt, Int.lt_of_lt_of_le rhi (mul_le_self (by omega) lo), ?_⟩
  by_cases h : 2 * (f.x.natAbs : Int) < f.y
  · exact .inl h
  · exact .inr (Int.lt_of_le_of_lt (mul_le_self (by omega) (show 2 * (f.x.natAbs : Int) - f.y ≤ isqrt D by omega)) hlt)
structure CycZ (D : Int) (f : F3) : Prop where
  x0 : f.x ≠ 0
  z0 : f.z ≠ 0
  pr : 2 * (f.x.natAbs : Int) * (2 * (f.z.natAbs : Int)) = D - f.y * f.y
  lo : isqrt D + 1 ≤ 2 * (f.z.natAbs : Int) + f.y
  hi : 2 * (f.z.natAbs : Int) ≤ isqrt D + f.y
theorem cyc_z {D : Int} {f : F3} (hD : 0 < D) (hn : isqrt D * isqrt D ≠ D) (h : Cyc D f) : CycZ D f := by
  obtain ⟨r0, rlo, rhi⟩ := isqrt_root (Int.le_of_lt hD)
  obtain ⟨hd, b0, b1, lo, hi⟩ := h
  obtain ⟨x, y, z⟩ := f
  simp only at *
  have hlt : isqrt D * isqrt D < D := by omega
  have hyy := mul_le_self (show 0 ≤ y by omega) b1
  have e1 : disc x y z = y * y - 4 * (x * z) := by unfold disc; grind
  have hxz : x * z < 0 := by omega
  have x0 : x ≠ 0 := fun e => by rw [e] at hxz; simp at hxz
  have z0 : z ≠ 0 := fun e => by rw [e] at hxz; simp at hxz
  have hab : (x.natAbs : Int) * (z.natAbs : Int) = -(x * z) := by
    have := Int.natAbs_mul x z
    have h2 : ((x * z).natAbs : Int) = -(x * z) := by omega
    rw [← h2, this]; push_cast; rfl
  have pr : 2 * (x.natAbs : Int) * (2 * (z.natAbs : Int)) = D - y * y := by
    rw [show 2 * (x.natAbs : Int) * (2 * (z.natAbs : Int)) = 4 * ((x.natAbs : Int) * (z.natAbs : Int)) by grind, hab]; omega
  refine ⟨x0, z0, pr, ?_, ?_⟩
  · show isqrt D + 1 ≤ 2 * (z.natAbs : Int) + y
    refine Int.not_lt.1 fun hh => ?_
    have h1 : 2 * (z.natAbs : Int) ≤ isqrt D - y := by omega
    have := Int.mul_le_mul hi h1 (by omega) (by omega)
    rw [pr, show (isqrt D + y) * (isqrt D - y) = isqrt D * isqrt D - y * y by grind] at this
    omega
  · show 2 * (z.natAbs : Int) ≤ isqrt D + y
    refine Int.not_lt.1 fun hh => ?_
    have h1 : isqrt D + y + 1 ≤ 2 * (z.natAbs : Int) := by omega
    have h2 : isqrt D + 1 - y ≤ 2 * (x.natAbs : Int) := by omega
    have := Int.mul_le_mul h2 h1 (by omega) (by omega)
    rw [pr, show (isqrt D + 1 - y) * (isqrt D + y + 1) = (isqrt D + 1) * (isqrt D + 1) - y * y by grind] at this
    omega
def nextQ (f : F3) : F3 := nextF f.x f.y f.z
theorem nextQ_disc (f : F3) : disc (nextQ f).x (nextQ f).y (nextQ f).z = disc f.x f.y f.z := by
  have he := nextB_eq f.x f.y f.z
  have e : nextB f.x f.y f.z = 2 * f.z * nextK f.x f.y f.z - f.y := by omega
  show disc f.z (nextB f.x f.y f.z) (formAt f.x f.y f.z (-1) (nextK f.x f.y f.z)) = _
  rw [e]; unfold disc formAt; grind
theorem emod_once {a n : Int} (h1 : n ≤ a) (h2 : a < 2 * n) : a % n = a - n := by
  have h3 : (a - n) % n = a - n := Int.emod_eq_of_lt (by omega) (by omega)
  rw [← h3, Int.sub_emod_right]
theorem cyc_next {D : Int} {f : F3} (hD : 0 < D) (hn : isqrt D * isqrt D ≠ D) (h : Cyc D f) : Cyc D (nextQ f) := by
  obtain ⟨x0, z0, pr, lo', hi'⟩ := cyc_z hD hn h
  have hd2 := nextQ_disc f
  obtain ⟨hd, b0, b1, lo, hi⟩ := h
  have ey : (nextQ f).y = isqrt D - (isqrt D + f.y) % (2 * (f.z.natAbs : Int)) := by
    show nextB f.x f.y f.z = _
    unfold nextB; rw [hd]
  have ex : (nextQ f).x = f.z := rfl
  have hn0 : 0 < 2 * (f.z.natAbs : Int) := by omega
  have t0 := Int.emod_nonneg (isqrt D + f.y) (show 2 * (f.z.natAbs : Int) ≠ 0 by omega)
  have t1 := Int.emod_lt_of_pos (isqrt D + f.y) hn0
  refine ⟨by rw [hd2, hd], ?_, ?_, ?_, ?_⟩
  · rw [ey]
    rcases Int.lt_or_le (isqrt D) (2 * (f.z.natAbs : Int)) with h1 | h1
    · rw [emod_once hi' (by omega)]; omega
    · omega
  · rw [ey]; omega
  · rw [ex, ey]; omega
  · rw [ex, ey]
    rcases Int.lt_or_le (isqrt D) (2 * (f.z.natAbs : Int)) with h1 | h1
    · rw [emod_once hi' (by omega)]; omega
    · omega
theorem small_mul {n k x : Int} (hn : 0 < n) (e : x = n * k) (h1 : -n < x) (h2 : x < n) : x = 0 := by
  have hk : k = 0 := by
    rcases Int.lt_trichotomy k 0 with h | h | h
    · have := Int.mul_le_mul_of_nonneg_left (show k ≤ -1 by omega) (Int.le_of_lt hn)
      rw [Int.mul_neg, Int.mul_one] at this; omega
    · exact h
    · have := Int.mul_le_mul_of_nonneg_left (show 1 ≤ k by omega) (Int.le_of_lt hn)
      rw [Int.mul_one] at this; omega
  rw [e, hk, Int.mul_zero]
theorem cyc_eq {D : Int} {f g : F3} (hf : Cyc D f) (hg : Cyc D g) (hy : f.y = g.y) (hz : f.z = g.z) (h0 : f.z ≠ 0) : f = g := by
  have h1 := hf.d
  have h2 := hg.d
  obtain ⟨x, y, z⟩ := f
  obtain ⟨x', y', z'⟩ := g
  simp only at hy hz h0 h1 h2
  subst hy; subst hz
  unfold disc at h1 h2
  have e : x * z = x' * z := by
    have e1 : 4 * x * z = 4 * (x * z) := Int.mul_assoc _ _ _
    have e2 : 4 * x' * z = 4 * (x' * z) := Int.mul_assoc _ _ _
    omega
  have := Int.eq_of_mul_eq_mul_right h0 e
  rw [this]
theorem cyc_inj {D : Int} {f g : F3} (hD : 0 < D) (hn : isqrt D * isqrt D ≠ D) (hf : Cyc D f) (hg : Cyc D g) (h : nextQ f = nextQ g) : f = g := by
  obtain ⟨x0, z0, pr, lo', hi'⟩ := cyc_z hD hn hf
  obtain ⟨x0', z0', pr', lo2, hi2⟩ := cyc_z hD hn hg
  have ez : f.z = g.z := congrArg F3.x h
  have ey : nextB f.x f.y f.z = nextB g.x g.y g.z := congrArg F3.y h
  unfold nextB at ey
  rw [hf.d, hg.d, ez] at ey
  have hm : (isqrt D + f.y) % (2 * (g.z.natAbs : Int)) = (isqrt D + g.y) % (2 * (g.z.natAbs : Int)) := by omega
  have hm2 := Int.emod_eq_emod_iff_emod_sub_eq_zero.1 hm
  obtain ⟨k, hk⟩ := Int.dvd_of_emod_eq_zero hm2
  have hb1 := hf.b1
  have hb2 := hg.b1
  rw [ez] at lo'
  have hy : f.y - g.y = 0 := small_mul (n := 2 * (g.z.natAbs : Int)) (k := k) (by omega) (by rw [← hk]; omega) (by omega) (by omega)
  exact cyc_eq hf hg (by omega) ez z0
/-- The forms on the way. -/
def itN (f : F3) : Nat → F3
  | 0 => f
  | k + 1 => nextQ (itN f k)
theorem itN_cyc {D : Int} {f : F3} (hD : 0 < D) (hn : isqrt D * isqrt D ≠ D) (h : Cyc D f) : ∀ k, Cyc D (itN f k)
  | 0 => h
  | k + 1 => cyc_next hD hn (itN_cyc hD hn h k)
theorem itN_back {D : Int} {f : F3} (hD : 0 < D) (hn : isqrt D * isqrt D ≠ D) (h : Cyc D f) : ∀ i k, itN f i = itN f (i + k) → f = itN f k
  | 0, k, e => by rw [Nat.zero_add] at e; exact e
  | i + 1, k, e => itN_back hD hn h i k (cyc_inj hD hn (itN_cyc hD hn h i) (itN_cyc hD hn h (i + k)) (by
      have e2 : i + 1 + k = i + k + 1 := by omega
      rw [e2] at e; exact e))
theorem S_le {n : Nat} {f g : Nat → Int} (h : ∀ i, i < n → f i ≤ g i) : S n f ≤ S n g := by
  induction n with
  | zero => simp [S]
  | succ n ih =>
    have h1 := ih (fun i hi => h i (by omega))
    have h2 := h n (by omega)
    simp only [S_succ]; omega
theorem pigeon {n M : Nat} {g : Nat → Nat} (hg : ∀ i, i < n → g i < M) (hi : ∀ i j, i < n → j < n → g i = g j → i = j) : n ≤ M := by
  have h1 : S n (fun i => S M (fun c => if g i = c then 1 else 0)) = S n (fun _ => 1) := S_congr fun i hi' => by
    refine Eq.trans (S_congr fun c _ => ?_) (S_pick (hg i hi') (fun _ => 1))
    by_cases e : g i = c
    · rw [if_pos e, if_pos e.symm]
    · rw [if_neg e, if_neg (fun h => e h.symm)]
  rw [S_swap] at h1
  have h2 : S M (fun c => S n (fun i => if g i = c then 1 else 0)) ≤ S M (fun _ => 1) := S_le fun c _ => (S_inj_le hi c).1
  rw [h1, S_const, S_const] at h2
  omega
structure CycBd (f : F3) : Prop where
  x0 : -50 ≤ f.x
  x1 : f.x ≤ 50
  y0 : 0 ≤ f.y
  y1 : f.y ≤ 50
  z0 : -2000 ≤ f.z
  z1 : f.z ≤ 2000
theorem cyc_bd {D : Int} {f : F3} (hD : 0 < D) (h2 : D ≤ 2000) (hn : isqrt D * isqrt D ≠ D) (h : Cyc D f) : CycBd f := by
  obtain ⟨x0, z0, pr, lo', hi'⟩ := cyc_z hD hn h
  obtain ⟨hd, b0, b1, lo, hi⟩ := h
  have hr : isqrt D ≤ 44 := isqrt_le (Int.le_of_lt hD) (by omega) (by omega)
  have hr0 := (isqrt_root (Int.le_of_lt hD)).nn
  exact ⟨by omega, by omega, by omega, by omega, by omega, by omega⟩
theorem cyc_small {D : Int} {f : F3} (hD : 0 < D) (h2 : D ≤ 2000) (hn : isqrt D * isqrt D ≠ D) (h : Cyc D f) : Small f.x f.y f.z := by
  obtain ⟨a, b, c, d, e, g⟩ := cyc_bd hD h2 hn h
  exact ⟨by omega, by omega, by omega, by omega, by omega, by omega⟩
/-- The cycle comes round. -/
theorem cyc_round {D : Int} {f : F3} (hD : 0 < D) (h2 : D ≤ 2000) (hn : isqrt D * isqrt D ≠ D) (h : Cyc D f) : ∃ N, 1 ≤ N ∧ N ≤ 10000 ∧ itN f N = f := by
  have hc := itN_cyc hD hn h
  have key : ∃ i j, i < j ∧ j ≤ 10000 ∧ itN f i = itN f j := by
    refine Classical.byContradiction fun hno => ?_
    have hp := pigeon (n := 10001) (M := 10000) (g := fun k => ((itN f k).z + 2000).toNat / 1000000 + ((itN f k).y.toNat * 150 + ((itN f k).x + 50).toNat)) (fun i _ => by
      obtain ⟨a, b, c, d, e, g⟩ := cyc_bd hD h2 hn (hc i)
      omega) (fun i j hi hj e => by
      obtain ⟨a, b, c, d, e1, g⟩ := cyc_bd hD h2 hn (hc i)
      obtain ⟨a', b', c', d', e1', g'⟩ := cyc_bd hD h2 hn (hc j)
      have ex : (itN f i).x = (itN f j).x := by omega
      have ey : (itN f i).y = (itN f j).y := by omega
      have e3 : itN f i = itN f j := by
        have h1 := (hc i).d
        have h3 := (hc j).d
        have hx := (cyc_z hD hn (hc i)).x0
        generalize itN f i = u at *
        generalize itN f j = v at *
        obtain ⟨x, y, z⟩ := u
        obtain ⟨x', y', z'⟩ := v
        simp only at ex ey h1 h3 hx
        subst ex; subst ey
        unfold disc at h1 h3
        have e4 : x * z = x * z' := by
          have e1 : 4 * x * z = 4 * (x * z) := Int.mul_assoc _ _ _
          have e2 : 4 * x * z' = 4 * (x * z') := Int.mul_assoc _ _ _
          omega
        rw [Int.eq_of_mul_eq_mul_left hx e4]
      rcases Nat.lt_trichotomy i j with hlt | hlt | hlt
      · exact absurd ⟨i, j, hlt, by omega, e3⟩ hno
      · exact hlt
      · exact absurd ⟨j, i, hlt, by omega, e3.symm⟩ hno)
    omega
  obtain ⟨i, j, hlt, hj, e⟩ := key
  refine ⟨j - i, by omega, by omega, ?_⟩
  exact (itN_back hD hn h i (j - i) (by rw [show i + (j - i) = j by omega]; exact e)).symm
theorem least_of {P : Nat → Prop} : ∀ N, P N → ∃ n, n ≤ N ∧ P n ∧ ∀ k, k < n → ¬ P k := by
  intro N
  induction N using Nat.strongRecOn with
  | ind N ih =>
    intro h
    by_cases hk : ∃ k, k < N ∧ P k
    · obtain ⟨k, hk, hp⟩ := hk
      obtain ⟨n, h1, h2, h3⟩ := ih k hk hp
      exact ⟨n, by omega, h2, h3⟩
    · exact ⟨N, Nat.le_refl _, h, fun k hk' hp => hk ⟨k, hk', hp⟩⟩
structure Period (f : F3) (N : Nat) : Prop where
  n1 : 1 ≤ N
  n2 : N ≤ 10000
  eq : itN f N = f
  ne : ∀ k, 1 ≤ k → k < N → itN f k ≠ f
theorem cyc_period {D : Int} {f : F3} (hD : 0 < D) (h2 : D ≤ 2000) (hn : isqrt D * isqrt D ≠ D) (h : Cyc D f) : ∃ N, Period f N := by
  obtain ⟨N, h1, h3, h4⟩ := cyc_round hD h2 hn h
  obtain ⟨n, h5, ⟨h6, h7⟩, h8⟩ := least_of (P := fun k => 1 ≤ k ∧ itN f k = f) N ⟨h1, h4⟩
  exact ⟨n, h6, by omega, h7, fun k hk1 hk2 e => h8 k hk2 ⟨hk1, e⟩⟩
theorem Period.uniq {f : F3} {N M : Nat} (h : Period f N) (h' : Period f M) : N = M := by
  rcases Nat.lt_trichotomy N M with hl | hl | hl
  · exact absurd h.eq (h'.ne N h.n1 hl)
  · exact hl
  · exact absurd h'.eq (h.ne M h'.n1 hl)
/-- The numbers of the forms, one behind the other. -/
def flatF (l : List F3) : List Int := l.flatMap fun f => [f.x, f.y, f.z]
theorem flatF_len (l : List F3) : (flatF l).length = l.length * 3 := by
  induction l with
  | nil => rfl
  | cons f l ih => simp only [flatF, List.flatMap_cons, List.length_append, List.length_cons] at *; simp at *; omega
theorem flatF_snoc (l : List F3) (f : F3) : flatF (l ++ [f]) = flatF l ++ [f.x, f.y, f.z] := by simp [flatF]
def cycL (f : F3) (n : Nat) : List F3 := (List.range n).map (itN f)
theorem cycL_snoc (f : F3) (n : Nat) : cycL f (n + 1) = cycL f n ++ [itN f n] := by simp [cycL, List.range_succ]
theorem cycL_len (f : F3) (n : Nat) : (cycL f n).length = n := by simp [cycL]
end Go.Proofs.Ytjgnhnbhcnfdbaa
