/- Contracts: the distance of two fractions, by the program. -/
import Derived.Test.YtjnkogkpdbgohaaK7
import Derived.Test.YtjnkogkpdbgohaaK4
namespace Go.Proofs.Ytjnkogkpdbgohaa
open Go.RowKit
def farB (a b c d : Int) : Bool := decide (-10000 ≤ a ∧ a ≤ 10000 ∧ b ≤ 10000 ∧ -10000 ≤ c ∧ c ≤ 10000 ∧ d ≤ 10000)
def distC (a b c d : Int) : Int := if (isFrac a b && isFrac c d) = true then (if farB a b c d = true then 0 else 3) else 1
/-- What DistanceOf says. -/
def DistSay (a b c d : Int) (e : Ending) : Prop := ∃ N : Int, e = .returned (.tuple #[(.int .i64 N), (.int .i64 (distC a b c d))]) ∧ (distC a b c d ≠ 0 → N = 0) ∧ (distC a b c d = 0 → ∃ n : Nat, N = (n : Int) ∧ IsD ⟨a, b⟩ ⟨c, d⟩ n)
structure MatI (a b c d r s : Int) : Prop where
  x0 : -100000000 ≤ s * c ∧ s * c ≤ 100000000
  x1 : -100000000 ≤ r * d ∧ r * d ≤ 100000000
  y0 : -100000000 ≤ a * d ∧ a * d ≤ 100000000
  y1 : -100000000 ≤ b * c ∧ b * c ≤ 100000000
theorem matI {a b c d r s : Int} (ha : -10000 ≤ a ∧ a ≤ 10000) (hb : -10000 ≤ b ∧ b ≤ 10000) (hc : -10000 ≤ c ∧ c ≤ 10000) (hd : -10000 ≤ d ∧ d ≤ 10000) (hr : -10000 ≤ r ∧ r ≤ 10000) (hs : -10000 ≤ s ∧ s ≤ 10000) : MatI a b c d r s :=
  ⟨mul_bd (A := 10000) (B := 10000) hs.1 hs.2 hc.1 hc.2, mul_bd (A := 10000) (B := 10000) hr.1 hr.2 hd.1 hd.2, mul_bd (A := 10000) (B := 10000) ha.1 ha.2 hd.1 hd.2, mul_bd (A := 10000) (B := 10000) hb.1 hb.2 hc.1 hc.2⟩
theorem gcd_of_det {p q r s : Int} (h : p * s - q * r = 1 ∨ p * s - q * r = -1) : Int.gcd p q = 1 := by
  have h1 : (Int.gcd p q : Int) ∣ p * s - q * r := Int.dvd_sub (Int.dvd_mul_of_dvd_left (Int.gcd_dvd_left _ _)) (Int.dvd_mul_of_dvd_left (Int.gcd_dvd_right _ _))
  have h2 : (Int.gcd p q : Int) ∣ 1 := by
    rcases h with h | h <;> rw [h] at h1
    · exact h1
    · exact Int.dvd_neg.1 h1
  have := Int.le_of_dvd (by omega) h2
  have h3 : Int.gcd p q ≠ 0 := by
    intro e
    rw [e] at h2
    have := Int.zero_dvd.1 h2
    omega
  omega
/-- The matrix that leads f to infinity. -/
theorem lead_gcd {a b c d r s : Int} (h : a * s - b * r = 1) (hg : Int.gcd c d = 1) : Int.gcd (s * c - r * d) (a * d - b * c) = 1 := by
  have hx : (Int.gcd (s * c - r * d) (a * d - b * c) : Int) ∣ c := by
    have : a * (s * c - r * d) + r * (a * d - b * c) = c := by
      have e : a * (s * c - r * d) + r * (a * d - b * c) = c * (a * s - b * r) := by grind
      rw [e, h]; omega
    have h5 := Int.dvd_add (Int.dvd_mul_of_dvd_right (b := a) (Int.gcd_dvd_left (s * c - r * d) (a * d - b * c))) (Int.dvd_mul_of_dvd_right (b := r) (Int.gcd_dvd_right (s * c - r * d) (a * d - b * c)))
    rwa [this] at h5
  have hy : (Int.gcd (s * c - r * d) (a * d - b * c) : Int) ∣ d := by
    have : b * (s * c - r * d) + s * (a * d - b * c) = d := by
      have e : b * (s * c - r * d) + s * (a * d - b * c) = d * (a * s - b * r) := by grind
      rw [e, h]; omega
    have h5 := Int.dvd_add (Int.dvd_mul_of_dvd_right (b := b) (Int.gcd_dvd_left (s * c - r * d) (a * d - b * c))) (Int.dvd_mul_of_dvd_right (b := s) (Int.gcd_dvd_right (s * c - r * d) (a * d - b * c)))
    rwa [this] at h5
  have h1 := Int.dvd_coe_gcd hx hy
  rw [hg] at h1
  have h2 := Int.le_of_dvd (by omega) h1
  have h3 : Int.gcd (s * c - r * d) (a * d - b * c) ≠ 0 := by
    intro e
    rw [e] at h1
    have := Int.zero_dvd.1 h1
    omega
  omega
theorem lead_dist {a b c d r s : Int} {n : Nat} (h : a * s - b * r = 1) (hd : IsD vInf ⟨s * c - r * d, a * d - b * c⟩ n) : IsD ⟨a, b⟩ ⟨c, d⟩ n := by
  have hdet : s * a - -r * -b = 1 := by
    have : s * a - -r * -b = a * s - b * r := by grind
    rw [this]; exact h
  refine IsD.unact (a := s) (b := -r) (c := -b) (d := a) (.inl hdet) ?_
  have e1 : mact s (-r) (-b) a ⟨a, b⟩ = vInf := by
    unfold mact vInf
    simp only [V2.mk.injEq]
    refine ⟨?_, ?_⟩
    · have : s * a + -r * b = a * s - b * r := by grind
      rw [this]; exact h
    · grind
  have e2 : mact s (-r) (-b) a ⟨c, d⟩ = ⟨s * c - r * d, a * d - b * c⟩ := by
    unfold mact
    simp only [V2.mk.injEq]
    exact ⟨by grind, by grind⟩
  rw [e1, e2]; exact hd
set_option maxRecDepth 100000 in
set_option maxHeartbeats 2000000 in
theorem DistanceOf_any (a b c d : Int) (w : World) :
    Calls Try.prog 15 #[(.agg #[.int .i64 a, .int .i64 b]), (.agg #[.int .i64 c, .int .i64 d])] w fun e w' => DistSay a b c d e ∧ Below w.heap.size w w' := by
  have HF := Lib.hid (fun bk W h => areFractions_2 bk a b c d W h)
  unfold DistSay
  cases hf : (isFrac a b && isFrac c d)
  · rw [show distC a b c d = 1 by simp [distC, hf]]
    rw [hf] at HF
    go_enter Try.func15, Try.ntmps15
    go_wp2_with fail
    refine (HF.out _ _ ⟨by go_simp, by go_simp, by go_simp, by go_simp, by simp⟩).mono ?_; rintro e w1 ⟨rfl, hb1⟩
    obtain ⟨hc1, hf1⟩ := bcell hb1
    have hB1 : Below w.heap.size w w1 := bfin (by go_grown) hb1
    go_wp2_with fail
    go_ret2
    exact ⟨⟨0, rfl, fun _ => rfl, fun h => by omega⟩, by go_grown⟩
  rw [hf] at HF
  have hdc : distC a b c d = if farB a b c d = true then 0 else 3 := by simp [distC, hf]
  rw [Bool.and_eq_true] at hf
  obtain ⟨⟨a0, a1⟩, b0, b1, hg1, -⟩ := frac_e9 hf.1
  obtain ⟨⟨c0, c1⟩, d0, d1, hg2, -⟩ := frac_e9 hf.2
  have HS1 := Lib.hid (fun W => size_any a W (by omega) (by omega))
  have HS2 := Lib.hid (fun W => size_any c W (by omega) (by omega))
  obtain ⟨m1, hm1, hk1⟩ := mx2 (a.natAbs : Int) b
  obtain ⟨m2, hm2, hk2⟩ := mx2 m1 (c.natAbs : Int)
  obtain ⟨m3, hm3, hk3⟩ := mx2 m2 d
  have hM : farB a b c d = decide (m3 ≤ 10000) := by
    unfold farB
    rw [Bool.eq_iff_iff]
    simp only [decide_eq_true_eq]
    rw [hk3, hk2, hk1]
    omega
  rw [hdc]
  clear hdc hf
  rw [hM]
  by_cases hfar : m3 ≤ 10000
  · rw [decide_eq_true hfar]
    simp only [if_true]
    have hall := (hk1 10000).1 (((hk2 10000).1 (((hk3 10000).1 hfar).1)).1)
    have hcc := ((hk2 10000).1 (((hk3 10000).1 hfar).1)).2
    have hdd := ((hk3 10000).1 hfar).2
    have HB := Lib.hid (fun W => bezout_bd a b W (by omega) (by omega) (by exact_mod_cast hg1))
    clear hk1 hk2 hk3 hM
    have hfar' : ¬ (10000 : Int) < m3 := by omega
    go_enter Try.func15, Try.ntmps15
    go_wp2_with fail
    refine (HF.out _ _ ⟨by go_simp, by go_simp, by go_simp, by go_simp, by simp⟩).mono ?_; rintro e w1 ⟨rfl, hb1⟩
    obtain ⟨hc1, hf1⟩ := bcell hb1
    obtain ⟨hz1_0, hz1_1⟩ : w.heap.size < w1.heap.size ∧ w.heap.size + 1 < w1.heap.size := by have := hb1.size; (try simp at this); omega
    go_wp2_with fail
    refine wp_region_ext (by kernel_rfl) (by kernel_rfl) ?_
    repeat (go_big_quiet_step ((go_at_call 33; first | (with_reducible refine Calls.ext_same (HS1.out _)) | (with_reducible refine Calls.ext_same (HS2.out _)))))
    refine wpQuiet_nil ?_
    intro w2 hb2
    replace hb2 := bstep hb1 hb2
    clear hc1 hf1 hb1
    obtain ⟨hc2, hf2⟩ := bcell hb2
    obtain ⟨hz2_0, hz2_1⟩ : w.heap.size < w2.heap.size ∧ w.heap.size + 1 < w2.heap.size := by have := hb2.size; (try simp at this); omega
    have hB2 : Below w.heap.size w w2 := bfin (by go_grown) hb2
    go_wp2_with fail
    refine (HB.out _).mono ?_; rintro e w3 ⟨r, s, rfl, hdet, hr, hs, hb3⟩
    have hB3 := bfin hB2 hb3
    obtain ⟨⟨x0, x1⟩, ⟨x2, x3⟩, ⟨y0, y1⟩, ⟨y2, y3⟩⟩ := matI (a := a) (b := b) (c := c) (d := d) (r := r) (s := s) (by omega) (by omega) (by omega) (by omega) hr hs
    have HX := Lib.hid (fun W => fromInfinity_any (s * c - r * d) (a * d - b * c) W (lead_gcd hdet hg2) (by omega) (by omega))
    have HL := Lib.hid (fun n h => lead_dist (n := n) (c := c) (d := d) hdet h)
    obtain ⟨hc3, hf3⟩ := bcell hb3
    have hz3 := hb3.size
    clear hdet hr hs
    go_wp2_with fail
    refine (HX.out _).mono ?_; rintro e w4 ⟨n, rfl, hn, hb4⟩
    have hB4 := bfin hB3 hb4
    have HN := Lib.hid (HL.out n hn)
    clear hn HL HX
    go_wp2_with fail
    go_ret2
    exact ⟨⟨n, rfl, fun h => absurd rfl h, fun _ => ⟨n, rfl, HN.out⟩⟩, hB4⟩
  · rw [decide_eq_false hfar]
    simp only [Bool.false_eq_true, if_false]
    clear hk1 hk2 hk3 hM
    have hfar' : (10000 : Int) < m3 := by omega
    go_enter Try.func15, Try.ntmps15
    go_wp2_with fail
    refine (HF.out _ _ ⟨by go_simp, by go_simp, by go_simp, by go_simp, by simp⟩).mono ?_; rintro e w1 ⟨rfl, hb1⟩
    obtain ⟨hc1, hf1⟩ := bcell hb1
    obtain ⟨hz1_0, hz1_1⟩ : w.heap.size < w1.heap.size ∧ w.heap.size + 1 < w1.heap.size := by have := hb1.size; (try simp at this); omega
    go_wp2_with fail
    refine wp_region_ext (by kernel_rfl) (by kernel_rfl) ?_
    repeat (go_big_quiet_step ((go_at_call 33; first | (with_reducible refine Calls.ext_same (HS1.out _)) | (with_reducible refine Calls.ext_same (HS2.out _)))))
    refine wpQuiet_nil ?_
    intro w2 hb2
    replace hb2 := bstep hb1 hb2
    clear hc1 hf1 hb1
    obtain ⟨hc2, hf2⟩ := bcell hb2
    have hB2 : Below w.heap.size w w2 := bfin (by go_grown) hb2
    go_wp2_with fail
    go_ret2
    exact ⟨⟨0, rfl, fun _ => rfl, fun h => by omega⟩, by go_grown⟩
end Go.Proofs.Ytjnkogkpdbgohaa
