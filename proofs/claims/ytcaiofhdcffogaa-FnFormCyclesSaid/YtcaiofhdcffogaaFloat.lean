/- The square root of a whole number that is not too great, as the model of floats has it, lies in a small range. -/
import GoSem.Core.Float
namespace Go.Proofs.Ytcaiofhdcffogaa.Fl
open Ieee

theorem log2_le {n k : Nat} (h : n < 2 ^ (k + 1)) : n.log2 ≤ k := by
  by_cases h0 : n = 0
  · subst h0; simp
  · have := (Nat.log2_lt h0).2 h; omega
theorem log2_bd {n : Nat} (h : n ≠ 0) : 2 ^ n.log2 ≤ n ∧ n < 2 ^ (n.log2 + 1) := ⟨Nat.log2_self_le h, Nat.lt_log2_self⟩

/-- kept, when nothing is dropped -/
theorem cut_zero (n : Nat) : Toward.even.cut false n 0 = n := by
  simp [Toward.cut, Nat.mod_one]
theorem cut_even_le (n drop : Nat) : Toward.even.cut false n drop ≤ n / 2 ^ (min drop (n.log2 + 2)) + 1 := by
  unfold Toward.cut
  simp only [Nat.shiftLeft_eq, Nat.one_mul]
  have : ∀ b : Bool, b.toNat ≤ 1 := by intro b; cases b <;> simp
  have := this (decide (2 ^ min drop (n.log2 + 2) < 2 * (n % 2 ^ min drop (n.log2 + 2))) || 2 ^ min drop (n.log2 + 2) == 2 * (n % 2 ^ min drop (n.log2 + 2)) && n / 2 ^ min drop (n.log2 + 2) % 2 == 1)
  omega
theorem cut_even_ge (n drop : Nat) : n / 2 ^ (min drop (n.log2 + 2)) ≤ Toward.even.cut false n drop := by
  unfold Toward.cut
  simp only [Nat.shiftLeft_eq, Nat.one_mul]
  omega
theorem cut_zero_way (n drop : Nat) : Toward.zero.cut false n drop = n / 2 ^ (min drop (n.log2 + 2)) := by
  unfold Toward.cut
  simp [Nat.shiftLeft_eq]

/-- A word in the normal range reads as its significand and place. -/
theorem read_norm {e kept : Nat} (he : e < 2000) (h1 : 2 ^ 52 ≤ kept) (h2 : kept < 2 ^ 53) : double.read (e * 2 ^ 52 + kept) = .number false kept (-1074 + (e : Int)) := by
  have hb : double.binade = 2 ^ 52 := rfl
  have hs : double.signWeight = 2 ^ 63 := rfl
  have hi : double.infRung = 2047 * 2 ^ 52 := rfl
  have hl : double.leastPlace = -1074 := rfl
  unfold Format.read
  rw [hb, hs, hi, hl]
  have e1 : (e * 2 ^ 52 + kept) % 2 ^ 63 = e * 2 ^ 52 + kept := Nat.mod_eq_of_lt (by omega)
  have e2 : (e * 2 ^ 52 + kept) / 2 ^ 63 = 0 := Nat.div_eq_of_lt (by omega)
  have e3 : (e * 2 ^ 52 + kept) / 2 ^ 52 = e + 1 := by omega
  have e4 : (e * 2 ^ 52 + kept) % 2 ^ 52 = kept - 2 ^ 52 := by omega
  simp only [e1, e2, e3, e4]
  rw [if_neg (by omega), if_pos (by omega)]
  have : 2 ^ 52 + (kept - 2 ^ 52) = kept := by omega
  rw [this]
  simp
theorem word_false (r : Nat) : double.word false r = r := rfl

/-- What nearest gives for a number whose place is in the normal range. -/
theorem nearest_gen (f : Format) (B I : Nat) (hl : f.leastPlace = -1074) (hf : f.fractionBits = 52) (hb : f.binade = B) (hi : f.infRung = I) {mag : Nat} {place : Int} (hm : mag ≠ 0) (hlo : -1000 ≤ place + mag.log2) :
    f.nearest false mag place = min (((place + mag.log2 - 52 + 1074)).toNat * B + Toward.even.cut false (mag <<< (52 - (mag.log2 : Int)).toNat) ((mag.log2 : Int) - 52).toNat) I := by
  unfold Format.nearest
  rw [if_neg hm, hl, hf, hb, hi]
  have e1 : max (place + (mag.log2 : Int) - ((52 : Nat) : Int)) (-1074) = place + mag.log2 - 52 := by omega
  have e2 : (place - (place + (mag.log2 : Int) - 52)).toNat = (52 - (mag.log2 : Int)).toNat := by omega
  have e3 : (place + (mag.log2 : Int) - 52 - place).toNat = ((mag.log2 : Int) - 52).toNat := by omega
  have e4 : place + (mag.log2 : Int) - 52 - -1074 = place + (mag.log2 : Int) - 52 + 1074 := by omega
  simp only [e1, e2, e3, e4, Format.word]
  simp
theorem nearest_eq {mag : Nat} {place : Int} (hm : mag ≠ 0) (hlo : -1000 ≤ place + mag.log2) :
    double.nearest false mag place = min (((place + mag.log2 - 52 + 1074)).toNat * 2 ^ 52 + Toward.even.cut false (mag <<< (52 - (mag.log2 : Int)).toNat) ((mag.log2 : Int) - 52).toNat) (2047 * 2 ^ 52) :=
  nearest_gen double (2 ^ 52) (2047 * 2 ^ 52) (by decide) (by decide) (by decide) (by decide) hm hlo

/-- The significand that is kept. -/
theorem kept_bd {mag : Nat} (hm : mag ≠ 0) : 2 ^ 52 ≤ Toward.even.cut false (mag <<< (52 - (mag.log2 : Int)).toNat) ((mag.log2 : Int) - 52).toNat ∧
    Toward.even.cut false (mag <<< (52 - (mag.log2 : Int)).toNat) ((mag.log2 : Int) - 52).toNat ≤ 2 ^ 53 := by
  obtain ⟨l1, l2⟩ := log2_bd hm
  by_cases h : mag.log2 ≤ 52
  · have e1 : ((mag.log2 : Int) - 52).toNat = 0 := by omega
    have e2 : (52 - (mag.log2 : Int)).toNat = 52 - mag.log2 := by omega
    rw [e1, e2, cut_zero, Nat.shiftLeft_eq]
    have p1 : 2 ^ mag.log2 * 2 ^ (52 - mag.log2) = 2 ^ 52 := by rw [← Nat.pow_add]; congr 1; omega
    have p2 : 2 ^ (mag.log2 + 1) * 2 ^ (52 - mag.log2) = 2 ^ 53 := by rw [← Nat.pow_add]; congr 1; omega
    have q1 := Nat.mul_le_mul_right (2 ^ (52 - mag.log2)) l1
    have q2 := Nat.mul_le_mul_right (2 ^ (52 - mag.log2)) (Nat.le_of_lt l2)
    omega
  · have e1 : ((mag.log2 : Int) - 52).toNat = mag.log2 - 52 := by omega
    have e2 : (52 - (mag.log2 : Int)).toNat = 0 := by omega
    rw [e1, e2, Nat.shiftLeft_zero]
    have e3 : min (mag.log2 - 52) (mag.log2 + 2) = mag.log2 - 52 := by omega
    have c1 := cut_even_ge mag (mag.log2 - 52)
    have c2 := cut_even_le mag (mag.log2 - 52)
    rw [e3] at c1 c2
    have hp : 0 < 2 ^ (mag.log2 - 52) := Nat.two_pow_pos _
    have p1 : 2 ^ 52 * 2 ^ (mag.log2 - 52) = 2 ^ mag.log2 := by rw [← Nat.pow_add]; congr 1; omega
    have p2 : 2 ^ 53 * 2 ^ (mag.log2 - 52) = 2 ^ (mag.log2 + 1) := by rw [← Nat.pow_add]; congr 1; omega
    have d1 : 2 ^ 52 ≤ mag / 2 ^ (mag.log2 - 52) := (Nat.le_div_iff_mul_le hp).2 (by omega)
    have d2 : mag / 2 ^ (mag.log2 - 52) < 2 ^ 53 := (Nat.div_lt_iff_lt_mul hp).2 (by omega)
    omega

/-- Written and read again: a number of the same size. -/
theorem read_nearest {mag : Nat} {place : Int} (hm : mag ≠ 0) (hlo : -1000 ≤ place + mag.log2) (hhi : place + mag.log2 ≤ 900) :
    ∃ (m : Nat) (i : Int), double.read (double.nearest false mag place) = .number false m i ∧ 2 ^ 52 ≤ m ∧ m < 2 ^ 53 ∧ (i = place + mag.log2 - 52 ∨ i = place + mag.log2 - 51) := by
  rw [nearest_eq hm hlo]
  obtain ⟨k1, k2⟩ := kept_bd hm
  generalize Toward.even.cut false (mag <<< (52 - (mag.log2 : Int)).toNat) ((mag.log2 : Int) - 52).toNat = kept at k1 k2
  rw [Nat.min_eq_left (by omega)]
  by_cases h : kept < 2 ^ 53
  · refine ⟨kept, _, read_norm (by omega) k1 h, k1, h, ?_⟩
    omega
  · have : kept = 2 ^ 53 := by omega
    subst this
    have e : (place + (mag.log2 : Int) - 52 + 1074).toNat * 2 ^ 52 + 2 ^ 53 = ((place + (mag.log2 : Int) - 52 + 1074).toNat + 1) * 2 ^ 52 + 2 ^ 52 := by omega
    rw [e]
    refine ⟨2 ^ 52, _, read_norm (by omega) (Nat.le_refl _) (by omega), Nat.le_refl _, by omega, ?_⟩
    omega

theorem rootFrom_sq (n : Nat) : ∀ (todo root : Nat), root * root ≤ n → Datum.rootFrom n todo root * Datum.rootFrom n todo root ≤ n
  | 0, root, h => h
  | todo + 1, root, h => by
    unfold Datum.rootFrom
    simp only []
    split
    · exact rootFrom_sq n todo _ ‹_›
    · exact rootFrom_sq n todo _ h
theorem toInt_bd {m : Nat} {i : Int} (h2 : m < 2 ^ 53) (hi : i ≤ -30) : ∃ r : Nat, (Datum.number false m i).toInt .zero = some (r : Int) ∧ r ≤ 2 ^ 23 := by
  refine ⟨Toward.zero.cut false (m <<< i.toNat) (-i).toNat, ?_, ?_⟩
  · unfold Datum.toInt Datum.integral
    simp [signed]
  · have e : i.toNat = 0 := by omega
    rw [e, Nat.shiftLeft_zero, cut_zero_way]
    have hmin : 30 ≤ min (-i).toNat (m.log2 + 2) ∨ m.log2 < 28 := by omega
    rcases hmin with h | h
    · have : m / 2 ^ (min (-i).toNat (m.log2 + 2)) ≤ m / 2 ^ 30 := Nat.div_le_div_left (Nat.pow_le_pow_right (by omega) h) (by omega)
      omega
    · by_cases h0 : m = 0
      · subst h0; simp
      · have h3 : m / 2 ^ (min (-i).toNat (m.log2 + 2)) = 0 := by
          apply Nat.div_eq_of_lt
          have := (log2_bd h0).2
          refine Nat.lt_of_lt_of_le this (Nat.pow_le_pow_right (by omega) (by omega))
        omega
theorem sqrt_num {m : Nat} {i : Int} (h1 : 2 ^ 52 ≤ m) (h2 : m < 2 ^ 53) (i1 : -60 ≤ i) (i2 : i ≤ -9) : ∃ (mag : Nat) (place : Int), (Datum.number false m i).root 54 = some (.number false mag place) ∧ mag ≠ 0 ∧ -100 ≤ place + mag.log2 ∧ place + mag.log2 ≤ 21 := by
  have hm0 : m ≠ 0 := by omega
  have hl : m.log2 = 52 := by
    have h3 : m.log2 < 53 := (Nat.log2_lt hm0).2 h2
    have h4 : ¬ m.log2 < 52 := fun h => by have := (Nat.log2_lt hm0).1 h; omega
    omega
  unfold Datum.root
  simp only [hl, hm0, Bool.false_eq_true, if_false]
  generalize hmore : 2 * 54 - 52 + ((i - ((2 * 54 - 52 : Nat) : Int)) % 2).toNat = more
  have hmb : more ≤ 57 := by omega
  have hmb2 : 56 ≤ more := by omega
  have hev : (i - (more : Int)) % 2 = 0 := by omega
  generalize hn : m <<< more = n
  have hnb : n < 2 ^ 110 := by
    rw [← hn, Nat.shiftLeft_eq]
    have : 2 ^ more ≤ 2 ^ 57 := Nat.pow_le_pow_right (by omega) hmb
    have := Nat.mul_le_mul (Nat.le_of_lt_succ (show m < (2 ^ 53 - 1) + 1 by omega)) this
    have h5 : (2 ^ 53 - 1) * 2 ^ 57 < 2 ^ 110 := by decide
    omega
  have hn0 : n ≠ 0 := by
    rw [← hn, Nat.shiftLeft_eq]
    exact Nat.mul_ne_zero hm0 (Nat.ne_of_gt (Nat.two_pow_pos _))
  have hsq := rootFrom_sq n (n.log2 / 2 + 1) 0 (by omega)
  generalize Datum.rootFrom n (n.log2 / 2 + 1) 0 = whole at hsq
  have hw : whole < 2 ^ 55 := by
    refine Nat.lt_of_not_le fun hge => ?_
    have := Nat.mul_le_mul hge hge
    have h5 : 2 ^ 55 * 2 ^ 55 = 2 ^ 110 := by decide
    omega
  have hb : ∀ b : Bool, b.toNat ≤ 1 := by intro b; cases b <;> simp
  refine ⟨_, _, rfl, ?_, ?_, ?_⟩
  · by_cases h0 : whole = 0
    · subst h0
      have : (0 * 0 != n) = true := by simp; omega
      rw [this]; simp
    · omega
  · omega
  · have : (2 * whole + (whole * whole != n).toNat).log2 ≤ 55 := log2_le (by have := hb (whole * whole != n); omega)
    omega
/-- The square root of a whole number that is not too great, as an integer: in a small range. -/
theorem sqrt_int (d : Nat) (h : d < 2 ^ 43) : ∃ bits : Nat, double.sqrt (double.nearest false d 0) = some bits ∧ ∃ r : Nat, (double.read bits).toInt .zero = some (r : Int) ∧ r ≤ 2 ^ 23 := by
  by_cases h0 : d = 0
  · subst h0
    exact ⟨0, by decide, 0, by decide, by omega⟩
  · have hl : d.log2 ≤ 42 := log2_le h
    obtain ⟨m, i, hr, h1, h2, hi⟩ := read_nearest (place := 0) h0 (by omega) (by omega)
    obtain ⟨mag, place, hs, hm, p1, p2⟩ := sqrt_num (i := i) h1 h2 (by omega) (by omega)
    obtain ⟨m', i', hr', h1', h2', hi'⟩ := read_nearest (place := place) hm (by omega) (by omega)
    obtain ⟨r, hr2, hb⟩ := toInt_bd h2' (show i' ≤ -30 by omega)
    refine ⟨double.nearest false mag place, ?_, r, by rw [hr']; exact hr2, hb⟩
    unfold Format.sqrt
    rw [hr]
    have hf : double.fractionBits + 2 = 54 := rfl
    rw [hf, hs]
    rfl
end Go.Proofs.Ytcaiofhdcffogaa.Fl
