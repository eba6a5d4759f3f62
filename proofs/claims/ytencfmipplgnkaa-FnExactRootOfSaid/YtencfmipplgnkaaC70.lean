/- Contracts: kinds; the shift of a matrix of the kind 2; the law ParabolicShift. -/
import Derived.Test.YtencfmipplgnkaaC10
import Derived.Test.YtencfmipplgnkaaC3
import Derived.Test.YtencfmipplgnkaaBox
namespace Go.Proofs.Ytencfmipplgnkaa
open Go.RowKit
def kcode (a b c d k : Int) : Int := if isMat a b c d = true then (if kindOf a b c d = k then 0 else 5) else 1
theorem kindCode_any (a b c d k : Int) (w : World) :
    Calls Try.prog 56 #[(.agg #[.int .i64 a, .int .i64 b, .int .i64 c, .int .i64 d]), (.int .i64 k)] w fun e w' => e = .returned (.int .i64 (kcode a b c d k)) ∧ Below w.heap.size w w' := by
  have H0 := Lib.hid (fun W => IsMatrix_any a b c d W)
  cases hM : isMat a b c d
  · rw [show kcode a b c d k = 1 by simp [kcode, hM]]
    rw [hM] at H0
    go_enter Try.func56, Try.ntmps56
    go_wp2_with fail
    refine (H0.out _).mono ?_; rintro e w1 ⟨rfl, hb1⟩
    obtain ⟨hc1, hf1⟩ := bcell hb1
    have hB1 : Below w.heap.size w w1 := bfin (by go_grown) hb1
    go_wp2_with fail
    go_ret
    exact ⟨rfl, by go_grown⟩
  rw [hM] at H0
  have HK := Lib.hid (fun W => kind_any a b c d W (isMat_iff.1 hM))
  by_cases hk : kindOf a b c d = k
  · rw [show kcode a b c d k = 0 by simp [kcode, hM, hk]]
    rw [hk] at HK
    have hn : (k != k) = false := by simp
    clear hM hk
    go_enter Try.func56, Try.ntmps56
    go_wp2_with fail
    refine (H0.out _).mono ?_; rintro e w1 ⟨rfl, hb1⟩
    obtain ⟨hc1, hf1⟩ := bcell hb1
    have hz0 : w.heap.size < w1.heap.size := by have := hb1.size; (try simp at this); omega
    go_wp2_with fail
    refine (HK.out _).mono ?_; rintro e w2 ⟨rfl, hb2⟩
    replace hb2 := bstep hb1 hb2
    clear hc1 hf1 hb1
    obtain ⟨hc2, hf2⟩ := bcell hb2
    have hB2 : Below w.heap.size w w2 := bfin (by go_grown) hb2
    go_wp2_with fail
    go_ret
    exact ⟨rfl, by go_grown⟩
  · rw [show kcode a b c d k = 5 by simp [kcode, hM, hk]]
    have hn : (kindOf a b c d != k) = true := by simpa using hk
    clear hM hk
    generalize kindOf a b c d = K at *
    go_enter Try.func56, Try.ntmps56
    go_wp2_with fail
    refine (H0.out _).mono ?_; rintro e w1 ⟨rfl, hb1⟩
    obtain ⟨hc1, hf1⟩ := bcell hb1
    have hz0 : w.heap.size < w1.heap.size := by have := hb1.size; (try simp at this); omega
    go_wp2_with fail
    refine (HK.out _).mono ?_; rintro e w2 ⟨rfl, hb2⟩
    replace hb2 := bstep hb1 hb2
    clear hc1 hf1 hb1
    obtain ⟨hc2, hf2⟩ := bcell hb2
    have hB2 : Below w.heap.size w w2 := bfin (by go_grown) hb2
    go_wp2_with fail
    go_ret
    exact ⟨rfl, by go_grown⟩
theorem l04Kind_any (a b c d k : Int) (w : World) :
    Calls Try.prog 54 #[(.agg #[.int .i64 a, .int .i64 b, .int .i64 c, .int .i64 d]), (.int .i64 k)] w fun e w' => e = .returned (.int .i64 (kcode a b c d k)) ∧ Below w.heap.size w w' := by
  have H0 := Lib.hid (fun W => l01Is_any a b c d W)
  cases hM : isMat a b c d
  · rw [show kcode a b c d k = 1 by simp [kcode, hM]]
    rw [hM] at H0
    go_enter Try.func54, Try.ntmps54
    go_wp2_with fail
    refine (H0.out _).mono ?_; rintro e w1 ⟨rfl, hb1⟩
    obtain ⟨hc1, hf1⟩ := bcell hb1
    have hB1 : Below w.heap.size w w1 := bfin (by go_grown) hb1
    go_wp2_with fail
    go_ret
    exact ⟨rfl, by go_grown⟩
  rw [hM] at H0
  have HK := Lib.hid (fun W => l01Kind_any a b c d W (isMat_iff.1 hM))
  by_cases hk : kindOf a b c d = k
  · rw [show kcode a b c d k = 0 by simp [kcode, hM, hk]]
    rw [hk] at HK
    have hn : (k != k) = false := by simp
    clear hM hk
    go_enter Try.func54, Try.ntmps54
    go_wp2_with fail
    refine (H0.out _).mono ?_; rintro e w1 ⟨rfl, hb1⟩
    obtain ⟨hc1, hf1⟩ := bcell hb1
    have hz0 : w.heap.size < w1.heap.size := by have := hb1.size; (try simp at this); omega
    go_wp2_with fail
    refine (HK.out _).mono ?_; rintro e w2 ⟨rfl, hb2⟩
    replace hb2 := bstep hb1 hb2
    clear hc1 hf1 hb1
    obtain ⟨hc2, hf2⟩ := bcell hb2
    have hB2 : Below w.heap.size w w2 := bfin (by go_grown) hb2
    go_wp2_with fail
    go_ret
    exact ⟨rfl, by go_grown⟩
  · rw [show kcode a b c d k = 5 by simp [kcode, hM, hk]]
    have hn : (kindOf a b c d != k) = true := by simpa using hk
    clear hM hk
    generalize kindOf a b c d = K at *
    go_enter Try.func54, Try.ntmps54
    go_wp2_with fail
    refine (H0.out _).mono ?_; rintro e w1 ⟨rfl, hb1⟩
    obtain ⟨hc1, hf1⟩ := bcell hb1
    have hz0 : w.heap.size < w1.heap.size := by have := hb1.size; (try simp at this); omega
    go_wp2_with fail
    refine (HK.out _).mono ?_; rintro e w2 ⟨rfl, hb2⟩
    replace hb2 := bstep hb1 hb2
    clear hc1 hf1 hb1
    obtain ⟨hc2, hf2⟩ := bcell hb2
    have hB2 : Below w.heap.size w w2 := bfin (by go_grown) hb2
    go_wp2_with fail
    go_ret
    exact ⟨rfl, by go_grown⟩
theorem kcode_zero {a b c d k : Int} (h : kcode a b c d k = 0) : IsMat a b c d ∧ kindOf a b c d = k := by
  unfold kcode at h
  by_cases hM : isMat a b c d = true
  · rw [if_pos hM] at h
    by_cases hk : kindOf a b c d = k
    · exact ⟨isMat_iff.1 hM, hk⟩
    · rw [if_neg hk] at h; omega
  · rw [if_neg hM] at h; omega
theorem kind_two {a b c d : Int} (h : kindOf a b c d = 2) : (a + d).natAbs = 2 := by
  unfold kindOf at h
  split at h
  · omega
  · split at h
    · omega
    · split at h
      · assumption
      · omega
def shiftG (a b c : Int) : Int := (Int.gcd (Int.gcd b c : Int) (a - 1) : Int)
def shiftP (a b c : Int) : Int := if b < 0 ∨ 0 < c then -shiftG a b c else shiftG a b c
/-- The shift, by the matrix with the trace 2. -/
def shiftV (a b c d : Int) : Int := if a + d < 0 then shiftP (-a) (-b) (-c) else shiftP a b c
theorem gcd_turn (x y z : Int) : (Int.gcd (Int.gcd x y : Int) z : Int) = (Int.gcd (Int.gcd y z : Int) x : Int) := by
  have h : Int.gcd (Int.gcd x y : Int) z = Int.gcd (Int.gcd y z : Int) x := by
    apply Nat.dvd_antisymm
    · have h1 := Int.gcd_dvd_left (Int.gcd x y : Int) z
      have h2 := Int.gcd_dvd_right (Int.gcd x y : Int) z
      exact Int.dvd_gcd (Int.natCast_dvd_natCast.2 (Int.dvd_gcd (Int.dvd_trans h1 (Int.gcd_dvd_right x y)) h2)) (Int.dvd_trans h1 (Int.gcd_dvd_left x y))
    · have h1 := Int.gcd_dvd_left (Int.gcd y z : Int) x
      have h2 := Int.gcd_dvd_right (Int.gcd y z : Int) x
      exact Int.dvd_gcd (Int.natCast_dvd_natCast.2 (Int.dvd_gcd h2 (Int.dvd_trans h1 (Int.gcd_dvd_left y z)))) (Int.dvd_trans h1 (Int.gcd_dvd_right y z))
  rw [h]
theorem gcd_le {x y K : Int} (h1 : -K ≤ x ∧ x ≤ K) (h2 : -K ≤ y ∧ y ≤ K) : 0 ≤ (Int.gcd x y : Int) ∧ (Int.gcd x y : Int) ≤ K := by
  refine ⟨by omega, ?_⟩
  by_cases hx : x = 0
  · subst hx; rw [Int.gcd_zero_left]; omega
  · have := Int.le_of_dvd (show 0 < (x.natAbs : Int) by omega) (Int.dvd_natAbs.2 (Int.gcd_dvd_left x y)); omega
/-- With the trace 2 the second and the third number have no equal signs. -/
theorem sign_two {a b c d : Int} (h : a * d - b * c = 1) (ht : a + d = 2) : ¬ (0 < b ∧ 0 < c) ∧ ¬ (b < 0 ∧ c < 0) := by
  have e : b * c = -((a - 1) * (a - 1)) := by
    have : d = 2 - a := by omega
    subst this; grind
  have h2 := sq_nn (a - 1)
  constructor
  · rintro ⟨h3, h4⟩
    have := Int.mul_pos h3 h4; omega
  · rintro ⟨h3, h4⟩
    have := Int.mul_pos_of_neg_of_neg h3 h4; omega
theorem l01Negative_any (a b c d : Int) (w : World) (ha : -9000000000000000000 ≤ a) (ha' : a ≤ 9000000000000000000) (hb : -9000000000000000000 ≤ b) (hb' : b ≤ 9000000000000000000)
    (hc : -9000000000000000000 ≤ c) (hc' : c ≤ 9000000000000000000) (hd : -9000000000000000000 ≤ d) (hd' : d ≤ 9000000000000000000) :
    Calls Try.prog 116 #[(.agg #[.int .i64 a, .int .i64 b, .int .i64 c, .int .i64 d])] w fun e w' => e = .returned (.agg #[.int .i64 (-a), .int .i64 (-b), .int .i64 (-c), .int .i64 (-d)]) ∧ Below w.heap.size w w' := by
  go_enter Try.func116, Try.ntmps116
  go_wp2
  go_returns
  exact ⟨rfl, by go_grown⟩
set_option maxRecDepth 100000 in
set_option maxHeartbeats 4000000 in
theorem parabolicShift_any (a b c d : Int) (w : World) (h : IsMat a b c d) (hk : kindOf a b c d = 2) :
    Calls Try.prog 59 #[(.agg #[.int .i64 a, .int .i64 b, .int .i64 c, .int .i64 d])] w fun e w' => e = .returned (.int .i64 (shiftV a b c d)) ∧ Below w.heap.size w w' := by
  have ⟨a0, a1, b0, b1, c0, c1, d0, d1, hdet⟩ := h
  have hk2 := kind_two hk
  by_cases ht : a + d < 0
  · rw [show shiftV a b c d = shiftP (-a) (-b) (-c) by unfold shiftV; rw [if_pos ht]]
    obtain ⟨n1, n2⟩ := sign_two (a := -a) (b := -b) (c := -c) (d := -d) (by rw [Int.neg_mul_neg, Int.neg_mul_neg]; exact hdet) (by omega)
    clear hk hdet
    have HNg := Lib.hid (fun W => negative_any a b c d W (by omega) (by omega) (by omega) (by omega) (by omega) (by omega) (by omega) (by omega))
    have bA : (-1000000000 ≤ -a ∧ -a ≤ 1000000000) ∧ (-1000000000 ≤ -b ∧ -b ≤ 1000000000) ∧ (-1000000000 ≤ -c ∧ -c ≤ 1000000000) := by omega
    generalize -a = A at *
    generalize -b = B at *
    generalize -c = C at *
    generalize -d = D at *
    obtain ⟨⟨A0, A1⟩, ⟨B0, B1⟩, C0, C1⟩ := bA
    have hw1 : IntKind.i64.wrap (A - 1) = A - 1 := IntWalk.i64_in _ (by omega)
    obtain ⟨g0, g1⟩ := gcd_le (x := A - 1) (y := B) (K := 2000000000) (by omega) (by omega)
    obtain ⟨k0, k1⟩ := gcd_le (x := (Int.gcd (A - 1) B : Int)) (y := C) (K := 2000000000) (by omega) (by omega)
    rcases (show B < 0 ∨ (¬ B < 0 ∧ B = 0 ∧ 0 < C) ∨ (¬ B < 0 ∧ B = 0 ∧ ¬ 0 < C) ∨ (¬ B < 0 ∧ B ≠ 0) by omega) with s1 | ⟨s1, s2, s3⟩ | ⟨s1, s2, s3⟩ | ⟨s1, s2⟩
    · skip
      rw [show shiftP A B C = -(Int.gcd (Int.gcd (A - 1) B : Int) C : Int) by unfold shiftP shiftG; rw [gcd_turn, gcd_turn, if_pos (by omega)]]
      go_enter Try.func59, Try.ntmps59
      go_wp2_with fail
      refine (trace_any _ _ _ _ _ h).mono ?_; rintro e w1 ⟨rfl, hb1⟩
      obtain ⟨hc1, hf1⟩ := bcell hb1
      have hz0 : w.heap.size < w1.heap.size := by have := hb1.size; (try simp at this); omega
      go_wp2_with fail
      refine (HNg.out _).mono ?_; rintro e w2 ⟨rfl, hb2⟩
      replace hb2 := bstep hb1 hb2
      clear hc1 hf1 hb1
      obtain ⟨hc2, hf2⟩ := bcell hb2
      have hz0 : w.heap.size < w2.heap.size := by have := hb2.size; (try simp at this); omega
      go_wp2_with fail
      have hB4 : Blk4 ((((w2.setCell ⟨w.heap.size, 0, none⟩ (.int .i64 A)).setCell ⟨w.heap.size, 1, none⟩ (.int .i64 B)).setCell ⟨w.heap.size, 2, none⟩ (.int .i64 C)).setCell ⟨w.heap.size, 3, none⟩ (.int .i64 D)) w.heap.size 40 A B C D := heap_set4 (heap_below (heap_new (w := w) (p := .cells #[(.int .i64 a), (.int .i64 b), (.int .i64 c), (.int .i64 d)] 40)) hb2)
      have hBW : Below w.heap.size w ((((w2.setCell ⟨w.heap.size, 0, none⟩ (.int .i64 A)).setCell ⟨w.heap.size, 1, none⟩ (.int .i64 B)).setCell ⟨w.heap.size, 2, none⟩ (.int .i64 C)).setCell ⟨w.heap.size, 3, none⟩ (.int .i64 D)) := by have hB2 : Below w.heap.size w w2 := bfin (by go_grown) hb2; go_grown
      generalize ((((w2.setCell ⟨w.heap.size, 0, none⟩ (.int .i64 A)).setCell ⟨w.heap.size, 1, none⟩ (.int .i64 B)).setCell ⟨w.heap.size, 2, none⟩ (.int .i64 C)).setCell ⟨w.heap.size, 3, none⟩ (.int .i64 D)) = W0 at *
      obtain ⟨⟨m0, m1, m2, m3⟩, ⟨-, -, -, -⟩, lm⟩ := hB4.open_
      clear hB4 hc2 hf2 hz0
      go_wp2_with fail
      refine wp_region_ext (by kernel_rfl) (by kernel_rfl) ?_
      repeat (go_big_quiet_step (((go_at_call 101; refine Calls.ext_of (Nat.le_refl _) (divisor_any _ _ _ (by omega) (by omega) (by omega) (by omega))))))
      refine wpQuiet_nil ?_
      intro w3 hb3
      obtain ⟨hc3, hf3⟩ := bcell hb3
      have hz1 : w.heap.size < w3.heap.size := Nat.lt_of_lt_of_le lm hb3.size
      have hB3 : Below w.heap.size w w3 := hBW.trans (hb3.mono hBW.size)
      go_wp2_with fail
      go_ret
      exact ⟨rfl, by go_grown⟩
    · have s4 : (B == 0) = true := by simpa using s2
      rw [show shiftP A B C = -(Int.gcd (Int.gcd (A - 1) B : Int) C : Int) by unfold shiftP shiftG; rw [gcd_turn, gcd_turn, if_pos (by omega)]]
      clear s2
      go_enter Try.func59, Try.ntmps59
      go_wp2_with fail
      refine (trace_any _ _ _ _ _ h).mono ?_; rintro e w1 ⟨rfl, hb1⟩
      obtain ⟨hc1, hf1⟩ := bcell hb1
      have hz0 : w.heap.size < w1.heap.size := by have := hb1.size; (try simp at this); omega
      go_wp2_with fail
      refine (HNg.out _).mono ?_; rintro e w2 ⟨rfl, hb2⟩
      replace hb2 := bstep hb1 hb2
      clear hc1 hf1 hb1
      obtain ⟨hc2, hf2⟩ := bcell hb2
      have hz0 : w.heap.size < w2.heap.size := by have := hb2.size; (try simp at this); omega
      go_wp2_with fail
      have hB4 : Blk4 ((((w2.setCell ⟨w.heap.size, 0, none⟩ (.int .i64 A)).setCell ⟨w.heap.size, 1, none⟩ (.int .i64 B)).setCell ⟨w.heap.size, 2, none⟩ (.int .i64 C)).setCell ⟨w.heap.size, 3, none⟩ (.int .i64 D)) w.heap.size 40 A B C D := heap_set4 (heap_below (heap_new (w := w) (p := .cells #[(.int .i64 a), (.int .i64 b), (.int .i64 c), (.int .i64 d)] 40)) hb2)
      have hBW : Below w.heap.size w ((((w2.setCell ⟨w.heap.size, 0, none⟩ (.int .i64 A)).setCell ⟨w.heap.size, 1, none⟩ (.int .i64 B)).setCell ⟨w.heap.size, 2, none⟩ (.int .i64 C)).setCell ⟨w.heap.size, 3, none⟩ (.int .i64 D)) := by have hB2 : Below w.heap.size w w2 := bfin (by go_grown) hb2; go_grown
      generalize ((((w2.setCell ⟨w.heap.size, 0, none⟩ (.int .i64 A)).setCell ⟨w.heap.size, 1, none⟩ (.int .i64 B)).setCell ⟨w.heap.size, 2, none⟩ (.int .i64 C)).setCell ⟨w.heap.size, 3, none⟩ (.int .i64 D)) = W0 at *
      obtain ⟨⟨m0, m1, m2, m3⟩, ⟨-, -, -, -⟩, lm⟩ := hB4.open_
      clear hB4 hc2 hf2 hz0
      go_wp2_with fail
      refine wp_region_ext (by kernel_rfl) (by kernel_rfl) ?_
      repeat (go_big_quiet_step (((go_at_call 101; refine Calls.ext_of (Nat.le_refl _) (divisor_any _ _ _ (by omega) (by omega) (by omega) (by omega))))))
      refine wpQuiet_nil ?_
      intro w3 hb3
      obtain ⟨hc3, hf3⟩ := bcell hb3
      have hz1 : w.heap.size < w3.heap.size := Nat.lt_of_lt_of_le lm hb3.size
      have hB3 : Below w.heap.size w w3 := hBW.trans (hb3.mono hBW.size)
      go_wp2_with fail
      go_ret
      exact ⟨rfl, by go_grown⟩
    · have s4 : (B == 0) = true := by simpa using s2
      rw [show shiftP A B C = (Int.gcd (Int.gcd (A - 1) B : Int) C : Int) by unfold shiftP shiftG; rw [gcd_turn, gcd_turn, if_neg (by omega)]]
      clear s2
      go_enter Try.func59, Try.ntmps59
      go_wp2_with fail
      refine (trace_any _ _ _ _ _ h).mono ?_; rintro e w1 ⟨rfl, hb1⟩
      obtain ⟨hc1, hf1⟩ := bcell hb1
      have hz0 : w.heap.size < w1.heap.size := by have := hb1.size; (try simp at this); omega
      go_wp2_with fail
      refine (HNg.out _).mono ?_; rintro e w2 ⟨rfl, hb2⟩
      replace hb2 := bstep hb1 hb2
      clear hc1 hf1 hb1
      obtain ⟨hc2, hf2⟩ := bcell hb2
      have hz0 : w.heap.size < w2.heap.size := by have := hb2.size; (try simp at this); omega
      go_wp2_with fail
      have hB4 : Blk4 ((((w2.setCell ⟨w.heap.size, 0, none⟩ (.int .i64 A)).setCell ⟨w.heap.size, 1, none⟩ (.int .i64 B)).setCell ⟨w.heap.size, 2, none⟩ (.int .i64 C)).setCell ⟨w.heap.size, 3, none⟩ (.int .i64 D)) w.heap.size 40 A B C D := heap_set4 (heap_below (heap_new (w := w) (p := .cells #[(.int .i64 a), (.int .i64 b), (.int .i64 c), (.int .i64 d)] 40)) hb2)
      have hBW : Below w.heap.size w ((((w2.setCell ⟨w.heap.size, 0, none⟩ (.int .i64 A)).setCell ⟨w.heap.size, 1, none⟩ (.int .i64 B)).setCell ⟨w.heap.size, 2, none⟩ (.int .i64 C)).setCell ⟨w.heap.size, 3, none⟩ (.int .i64 D)) := by have hB2 : Below w.heap.size w w2 := bfin (by go_grown) hb2; go_grown
      generalize ((((w2.setCell ⟨w.heap.size, 0, none⟩ (.int .i64 A)).setCell ⟨w.heap.size, 1, none⟩ (.int .i64 B)).setCell ⟨w.heap.size, 2, none⟩ (.int .i64 C)).setCell ⟨w.heap.size, 3, none⟩ (.int .i64 D)) = W0 at *
      obtain ⟨⟨m0, m1, m2, m3⟩, ⟨-, -, -, -⟩, lm⟩ := hB4.open_
      clear hB4 hc2 hf2 hz0
      go_wp2_with fail
      refine wp_region_ext (by kernel_rfl) (by kernel_rfl) ?_
      repeat (go_big_quiet_step (((go_at_call 101; refine Calls.ext_of (Nat.le_refl _) (divisor_any _ _ _ (by omega) (by omega) (by omega) (by omega))))))
      refine wpQuiet_nil ?_
      intro w3 hb3
      obtain ⟨hc3, hf3⟩ := bcell hb3
      have hz1 : w.heap.size < w3.heap.size := Nat.lt_of_lt_of_le lm hb3.size
      have hB3 : Below w.heap.size w w3 := hBW.trans (hb3.mono hBW.size)
      go_wp2_with fail
      go_ret
      exact ⟨rfl, by go_grown⟩
    · have s4 : (B == 0) = false := by simpa using s2
      rw [show shiftP A B C = (Int.gcd (Int.gcd (A - 1) B : Int) C : Int) by unfold shiftP shiftG; rw [gcd_turn, gcd_turn, if_neg (by omega)]]
      go_enter Try.func59, Try.ntmps59
      go_wp2_with fail
      refine (trace_any _ _ _ _ _ h).mono ?_; rintro e w1 ⟨rfl, hb1⟩
      obtain ⟨hc1, hf1⟩ := bcell hb1
      have hz0 : w.heap.size < w1.heap.size := by have := hb1.size; (try simp at this); omega
      go_wp2_with fail
      refine (HNg.out _).mono ?_; rintro e w2 ⟨rfl, hb2⟩
      replace hb2 := bstep hb1 hb2
      clear hc1 hf1 hb1
      obtain ⟨hc2, hf2⟩ := bcell hb2
      have hz0 : w.heap.size < w2.heap.size := by have := hb2.size; (try simp at this); omega
      go_wp2_with fail
      have hB4 : Blk4 ((((w2.setCell ⟨w.heap.size, 0, none⟩ (.int .i64 A)).setCell ⟨w.heap.size, 1, none⟩ (.int .i64 B)).setCell ⟨w.heap.size, 2, none⟩ (.int .i64 C)).setCell ⟨w.heap.size, 3, none⟩ (.int .i64 D)) w.heap.size 40 A B C D := heap_set4 (heap_below (heap_new (w := w) (p := .cells #[(.int .i64 a), (.int .i64 b), (.int .i64 c), (.int .i64 d)] 40)) hb2)
      have hBW : Below w.heap.size w ((((w2.setCell ⟨w.heap.size, 0, none⟩ (.int .i64 A)).setCell ⟨w.heap.size, 1, none⟩ (.int .i64 B)).setCell ⟨w.heap.size, 2, none⟩ (.int .i64 C)).setCell ⟨w.heap.size, 3, none⟩ (.int .i64 D)) := by have hB2 : Below w.heap.size w w2 := bfin (by go_grown) hb2; go_grown
      generalize ((((w2.setCell ⟨w.heap.size, 0, none⟩ (.int .i64 A)).setCell ⟨w.heap.size, 1, none⟩ (.int .i64 B)).setCell ⟨w.heap.size, 2, none⟩ (.int .i64 C)).setCell ⟨w.heap.size, 3, none⟩ (.int .i64 D)) = W0 at *
      obtain ⟨⟨m0, m1, m2, m3⟩, ⟨-, -, -, -⟩, lm⟩ := hB4.open_
      clear hB4 hc2 hf2 hz0
      go_wp2_with fail
      refine wp_region_ext (by kernel_rfl) (by kernel_rfl) ?_
      repeat (go_big_quiet_step (((go_at_call 101; refine Calls.ext_of (Nat.le_refl _) (divisor_any _ _ _ (by omega) (by omega) (by omega) (by omega))))))
      refine wpQuiet_nil ?_
      intro w3 hb3
      obtain ⟨hc3, hf3⟩ := bcell hb3
      have hz1 : w.heap.size < w3.heap.size := Nat.lt_of_lt_of_le lm hb3.size
      have hB3 : Below w.heap.size w w3 := hBW.trans (hb3.mono hBW.size)
      go_wp2_with fail
      go_ret
      exact ⟨rfl, by go_grown⟩
  · rw [show shiftV a b c d = shiftP a b c by unfold shiftV; rw [if_neg ht]]
    obtain ⟨n1, n2⟩ := sign_two (a := a) (b := b) (c := c) (d := d) hdet (by omega)
    clear hk hdet
    have hw1 : IntKind.i64.wrap (a - 1) = a - 1 := IntWalk.i64_in _ (by omega)
    obtain ⟨g0, g1⟩ := gcd_le (x := a - 1) (y := b) (K := 2000000000) (by omega) (by omega)
    obtain ⟨k0, k1⟩ := gcd_le (x := (Int.gcd (a - 1) b : Int)) (y := c) (K := 2000000000) (by omega) (by omega)
    rcases (show b < 0 ∨ (¬ b < 0 ∧ b = 0 ∧ 0 < c) ∨ (¬ b < 0 ∧ b = 0 ∧ ¬ 0 < c) ∨ (¬ b < 0 ∧ b ≠ 0) by omega) with s1 | ⟨s1, s2, s3⟩ | ⟨s1, s2, s3⟩ | ⟨s1, s2⟩
    · skip
      rw [show shiftP a b c = -(Int.gcd (Int.gcd (a - 1) b : Int) c : Int) by unfold shiftP shiftG; rw [gcd_turn, gcd_turn, if_pos (by omega)]]
      go_enter Try.func59, Try.ntmps59
      go_wp2_with fail
      refine (trace_any _ _ _ _ _ h).mono ?_; rintro e w1 ⟨rfl, hb1⟩
      obtain ⟨hc1, hf1⟩ := bcell hb1
      have hz0 : w.heap.size < w1.heap.size := by have := hb1.size; (try simp at this); omega
      go_wp2_with fail
      refine wp_region_ext (by kernel_rfl) (by kernel_rfl) ?_
      repeat (go_big_quiet_step (((go_at_call 101; refine Calls.ext_of (Nat.le_refl _) (divisor_any _ _ _ (by omega) (by omega) (by omega) (by omega))))))
      refine wpQuiet_nil ?_
      intro w2 hb2
      replace hb2 := bstep hb1 hb2
      clear hc1 hf1 hb1
      obtain ⟨hc2, hf2⟩ := bcell hb2
      have hz2_0 : w.heap.size < w2.heap.size := by have := hb2.size; (try simp at this); omega
      have hB2 : Below w.heap.size w w2 := bfin (by go_grown) hb2
      go_wp2_with fail
      go_ret
      exact ⟨rfl, by go_grown⟩
    · have s4 : (b == 0) = true := by simpa using s2
      rw [show shiftP a b c = -(Int.gcd (Int.gcd (a - 1) b : Int) c : Int) by unfold shiftP shiftG; rw [gcd_turn, gcd_turn, if_pos (by omega)]]
      clear s2
      go_enter Try.func59, Try.ntmps59
      go_wp2_with fail
      refine (trace_any _ _ _ _ _ h).mono ?_; rintro e w1 ⟨rfl, hb1⟩
      obtain ⟨hc1, hf1⟩ := bcell hb1
      have hz0 : w.heap.size < w1.heap.size := by have := hb1.size; (try simp at this); omega
      go_wp2_with fail
      refine wp_region_ext (by kernel_rfl) (by kernel_rfl) ?_
      repeat (go_big_quiet_step (((go_at_call 101; refine Calls.ext_of (Nat.le_refl _) (divisor_any _ _ _ (by omega) (by omega) (by omega) (by omega))))))
      refine wpQuiet_nil ?_
      intro w2 hb2
      replace hb2 := bstep hb1 hb2
      clear hc1 hf1 hb1
      obtain ⟨hc2, hf2⟩ := bcell hb2
      have hz2_0 : w.heap.size < w2.heap.size := by have := hb2.size; (try simp at this); omega
      have hB2 : Below w.heap.size w w2 := bfin (by go_grown) hb2
      go_wp2_with fail
      go_ret
      exact ⟨rfl, by go_grown⟩
    · have s4 : (b == 0) = true := by simpa using s2
      rw [show shiftP a b c = (Int.gcd (Int.gcd (a - 1) b : Int) c : Int) by unfold shiftP shiftG; rw [gcd_turn, gcd_turn, if_neg (by omega)]]
      clear s2
      go_enter Try.func59, Try.ntmps59
      go_wp2_with fail
      refine (trace_any _ _ _ _ _ h).mono ?_; rintro e w1 ⟨rfl, hb1⟩
      obtain ⟨hc1, hf1⟩ := bcell hb1
      have hz0 : w.heap.size < w1.heap.size := by have := hb1.size; (try simp at this); omega
      go_wp2_with fail
      refine wp_region_ext (by kernel_rfl) (by kernel_rfl) ?_
      repeat (go_big_quiet_step (((go_at_call 101; refine Calls.ext_of (Nat.le_refl _) (divisor_any _ _ _ (by omega) (by omega) (by omega) (by omega))))))
      refine wpQuiet_nil ?_
      intro w2 hb2
      replace hb2 := bstep hb1 hb2
      clear hc1 hf1 hb1
      obtain ⟨hc2, hf2⟩ := bcell hb2
      have hz2_0 : w.heap.size < w2.heap.size := by have := hb2.size; (try simp at this); omega
      have hB2 : Below w.heap.size w w2 := bfin (by go_grown) hb2
      go_wp2_with fail
      go_ret
      exact ⟨rfl, by go_grown⟩
    · have s4 : (b == 0) = false := by simpa using s2
      rw [show shiftP a b c = (Int.gcd (Int.gcd (a - 1) b : Int) c : Int) by unfold shiftP shiftG; rw [gcd_turn, gcd_turn, if_neg (by omega)]]
      go_enter Try.func59, Try.ntmps59
      go_wp2_with fail
      refine (trace_any _ _ _ _ _ h).mono ?_; rintro e w1 ⟨rfl, hb1⟩
      obtain ⟨hc1, hf1⟩ := bcell hb1
      have hz0 : w.heap.size < w1.heap.size := by have := hb1.size; (try simp at this); omega
      go_wp2_with fail
      refine wp_region_ext (by kernel_rfl) (by kernel_rfl) ?_
      repeat (go_big_quiet_step (((go_at_call 101; refine Calls.ext_of (Nat.le_refl _) (divisor_any _ _ _ (by omega) (by omega) (by omega) (by omega))))))
      refine wpQuiet_nil ?_
      intro w2 hb2
      replace hb2 := bstep hb1 hb2
      clear hc1 hf1 hb1
      obtain ⟨hc2, hf2⟩ := bcell hb2
      have hz2_0 : w.heap.size < w2.heap.size := by have := hb2.size; (try simp at this); omega
      have hB2 : Below w.heap.size w w2 := bfin (by go_grown) hb2
      go_wp2_with fail
      go_ret
      exact ⟨rfl, by go_grown⟩
set_option maxRecDepth 100000 in
set_option maxHeartbeats 4000000 in
theorem l04Shift_any (a b c d : Int) (w : World) (h : IsMat a b c d) (hk : kindOf a b c d = 2) :
    Calls Try.prog 58 #[(.agg #[.int .i64 a, .int .i64 b, .int .i64 c, .int .i64 d])] w fun e w' => e = .returned (.int .i64 (shiftV a b c d)) ∧ Below w.heap.size w w' := by
  have ⟨a0, a1, b0, b1, c0, c1, d0, d1, hdet⟩ := h
  have hk2 := kind_two hk
  by_cases ht : a + d < 0
  · rw [show shiftV a b c d = shiftP (-a) (-b) (-c) by unfold shiftV; rw [if_pos ht]]
    obtain ⟨n1, n2⟩ := sign_two (a := -a) (b := -b) (c := -c) (d := -d) (by rw [Int.neg_mul_neg, Int.neg_mul_neg]; exact hdet) (by omega)
    clear hk hdet
    have HNg := Lib.hid (fun W => l01Negative_any a b c d W (by omega) (by omega) (by omega) (by omega) (by omega) (by omega) (by omega) (by omega))
    have bA : (-1000000000 ≤ -a ∧ -a ≤ 1000000000) ∧ (-1000000000 ≤ -b ∧ -b ≤ 1000000000) ∧ (-1000000000 ≤ -c ∧ -c ≤ 1000000000) := by omega
    generalize -a = A at *
    generalize -b = B at *
    generalize -c = C at *
    generalize -d = D at *
    obtain ⟨⟨A0, A1⟩, ⟨B0, B1⟩, C0, C1⟩ := bA
    have hw1 : IntKind.i64.wrap (A - 1) = A - 1 := IntWalk.i64_in _ (by omega)
    obtain ⟨g0, g1⟩ := gcd_le (x := B) (y := C) (K := 2000000000) (by omega) (by omega)
    obtain ⟨k0, k1⟩ := gcd_le (x := (Int.gcd B C : Int)) (y := A - 1) (K := 2000000000) (by omega) (by omega)
    rcases (show B < 0 ∨ (¬ B < 0 ∧ 0 < C) ∨ (¬ B < 0 ∧ ¬ 0 < C) by omega) with s1 | ⟨s1, s2⟩ | ⟨s1, s2⟩
    · rw [show shiftP A B C = -(Int.gcd (Int.gcd B C : Int) (A - 1) : Int) by unfold shiftP shiftG; rw [if_pos (by omega)]]
      go_enter Try.func58, Try.ntmps58
      go_wp2_with fail
      refine (l01Trace_any _ _ _ _ _ h).mono ?_; rintro e w1 ⟨rfl, hb1⟩
      obtain ⟨hc1, hf1⟩ := bcell hb1
      have hz0 : w.heap.size < w1.heap.size := by have := hb1.size; (try simp at this); omega
      go_wp2_with fail
      refine (HNg.out _).mono ?_; rintro e w2 ⟨rfl, hb2⟩
      replace hb2 := bstep hb1 hb2
      clear hc1 hf1 hb1
      obtain ⟨hc2, hf2⟩ := bcell hb2
      have hz0 : w.heap.size < w2.heap.size := by have := hb2.size; (try simp at this); omega
      go_wp2_with fail
      have hB4 : Blk4 ((((w2.setCell ⟨w.heap.size, 0, none⟩ (.int .i64 A)).setCell ⟨w.heap.size, 1, none⟩ (.int .i64 B)).setCell ⟨w.heap.size, 2, none⟩ (.int .i64 C)).setCell ⟨w.heap.size, 3, none⟩ (.int .i64 D)) w.heap.size 40 A B C D := heap_set4 (heap_below (heap_new (w := w) (p := .cells #[(.int .i64 a), (.int .i64 b), (.int .i64 c), (.int .i64 d)] 40)) hb2)
      have hBW : Below w.heap.size w ((((w2.setCell ⟨w.heap.size, 0, none⟩ (.int .i64 A)).setCell ⟨w.heap.size, 1, none⟩ (.int .i64 B)).setCell ⟨w.heap.size, 2, none⟩ (.int .i64 C)).setCell ⟨w.heap.size, 3, none⟩ (.int .i64 D)) := by have hB2 : Below w.heap.size w w2 := bfin (by go_grown) hb2; go_grown
      generalize ((((w2.setCell ⟨w.heap.size, 0, none⟩ (.int .i64 A)).setCell ⟨w.heap.size, 1, none⟩ (.int .i64 B)).setCell ⟨w.heap.size, 2, none⟩ (.int .i64 C)).setCell ⟨w.heap.size, 3, none⟩ (.int .i64 D)) = W0 at *
      obtain ⟨⟨m0, m1, m2, m3⟩, ⟨-, -, -, -⟩, lm⟩ := hB4.open_
      clear hB4 hc2 hf2 hz0
      go_wp2_with fail
      refine wp_region_ext (by kernel_rfl) (by kernel_rfl) ?_
      repeat (go_big_quiet_step (((go_at_call 95; refine Calls.ext_of (Nat.le_refl _) (l01Gcd_any _ _ _ (by omega) (by omega) (by omega) (by omega))))))
      refine wpQuiet_nil ?_
      intro w3 hb3
      obtain ⟨hc3, hf3⟩ := bcell hb3
      have hz1 : w.heap.size < w3.heap.size := Nat.lt_of_lt_of_le lm hb3.size
      have hB3 : Below w.heap.size w w3 := hBW.trans (hb3.mono hBW.size)
      go_wp2_with fail
      go_ret
      exact ⟨rfl, by go_grown⟩
    · rw [show shiftP A B C = -(Int.gcd (Int.gcd B C : Int) (A - 1) : Int) by unfold shiftP shiftG; rw [if_pos (by omega)]]
      go_enter Try.func58, Try.ntmps58
      go_wp2_with fail
      refine (l01Trace_any _ _ _ _ _ h).mono ?_; rintro e w1 ⟨rfl, hb1⟩
      obtain ⟨hc1, hf1⟩ := bcell hb1
      have hz0 : w.heap.size < w1.heap.size := by have := hb1.size; (try simp at this); omega
      go_wp2_with fail
      refine (HNg.out _).mono ?_; rintro e w2 ⟨rfl, hb2⟩
      replace hb2 := bstep hb1 hb2
      clear hc1 hf1 hb1
      obtain ⟨hc2, hf2⟩ := bcell hb2
      have hz0 : w.heap.size < w2.heap.size := by have := hb2.size; (try simp at this); omega
      go_wp2_with fail
      have hB4 : Blk4 ((((w2.setCell ⟨w.heap.size, 0, none⟩ (.int .i64 A)).setCell ⟨w.heap.size, 1, none⟩ (.int .i64 B)).setCell ⟨w.heap.size, 2, none⟩ (.int .i64 C)).setCell ⟨w.heap.size, 3, none⟩ (.int .i64 D)) w.heap.size 40 A B C D := heap_set4 (heap_below (heap_new (w := w) (p := .cells #[(.int .i64 a), (.int .i64 b), (.int .i64 c), (.int .i64 d)] 40)) hb2)
      have hBW : Below w.heap.size w ((((w2.setCell ⟨w.heap.size, 0, none⟩ (.int .i64 A)).setCell ⟨w.heap.size, 1, none⟩ (.int .i64 B)).setCell ⟨w.heap.size, 2, none⟩ (.int .i64 C)).setCell ⟨w.heap.size, 3, none⟩ (.int .i64 D)) := by have hB2 : Below w.heap.size w w2 := bfin (by go_grown) hb2; go_grown
      generalize ((((w2.setCell ⟨w.heap.size, 0, none⟩ (.int .i64 A)).setCell ⟨w.heap.size, 1, none⟩ (.int .i64 B)).setCell ⟨w.heap.size, 2, none⟩ (.int .i64 C)).setCell ⟨w.heap.size, 3, none⟩ (.int .i64 D)) = W0 at *
      obtain ⟨⟨m0, m1, m2, m3⟩, ⟨-, -, -, -⟩, lm⟩ := hB4.open_
      clear hB4 hc2 hf2 hz0
      go_wp2_with fail
      refine wp_region_ext (by kernel_rfl) (by kernel_rfl) ?_
      repeat (go_big_quiet_step (((go_at_call 95; refine Calls.ext_of (Nat.le_refl _) (l01Gcd_any _ _ _ (by omega) (by omega) (by omega) (by omega))))))
      refine wpQuiet_nil ?_
      intro w3 hb3
      obtain ⟨hc3, hf3⟩ := bcell hb3
      have hz1 : w.heap.size < w3.heap.size := Nat.lt_of_lt_of_le lm hb3.size
      have hB3 : Below w.heap.size w w3 := hBW.trans (hb3.mono hBW.size)
      go_wp2_with fail
      go_ret
      exact ⟨rfl, by go_grown⟩
    · rw [show shiftP A B C = (Int.gcd (Int.gcd B C : Int) (A - 1) : Int) by unfold shiftP shiftG; rw [if_neg (by omega)]]
      go_enter Try.func58, Try.ntmps58
      go_wp2_with fail
      refine (l01Trace_any _ _ _ _ _ h).mono ?_; rintro e w1 ⟨rfl, hb1⟩
      obtain ⟨hc1, hf1⟩ := bcell hb1
      have hz0 : w.heap.size < w1.heap.size := by have := hb1.size; (try simp at this); omega
      go_wp2_with fail
      refine (HNg.out _).mono ?_; rintro e w2 ⟨rfl, hb2⟩
      replace hb2 := bstep hb1 hb2
      clear hc1 hf1 hb1
      obtain ⟨hc2, hf2⟩ := bcell hb2
      have hz0 : w.heap.size < w2.heap.size := by have := hb2.size; (try simp at this); omega
      go_wp2_with fail
      have hB4 : Blk4 ((((w2.setCell ⟨w.heap.size, 0, none⟩ (.int .i64 A)).setCell ⟨w.heap.size, 1, none⟩ (.int .i64 B)).setCell ⟨w.heap.size, 2, none⟩ (.int .i64 C)).setCell ⟨w.heap.size, 3, none⟩ (.int .i64 D)) w.heap.size 40 A B C D := heap_set4 (heap_below (heap_new (w := w) (p := .cells #[(.int .i64 a), (.int .i64 b), (.int .i64 c), (.int .i64 d)] 40)) hb2)
      have hBW : Below w.heap.size w ((((w2.setCell ⟨w.heap.size, 0, none⟩ (.int .i64 A)).setCell ⟨w.heap.size, 1, none⟩ (.int .i64 B)).setCell ⟨w.heap.size, 2, none⟩ (.int .i64 C)).setCell ⟨w.heap.size, 3, none⟩ (.int .i64 D)) := by have hB2 : Below w.heap.size w w2 := bfin (by go_grown) hb2; go_grown
      generalize ((((w2.setCell ⟨w.heap.size, 0, none⟩ (.int .i64 A)).setCell ⟨w.heap.size, 1, none⟩ (.int .i64 B)).setCell ⟨w.heap.size, 2, none⟩ (.int .i64 C)).setCell ⟨w.heap.size, 3, none⟩ (.int .i64 D)) = W0 at *
      obtain ⟨⟨m0, m1, m2, m3⟩, ⟨-, -, -, -⟩, lm⟩ := hB4.open_
      clear hB4 hc2 hf2 hz0
      go_wp2_with fail
      refine wp_region_ext (by kernel_rfl) (by kernel_rfl) ?_
      repeat (go_big_quiet_step (((go_at_call 95; refine Calls.ext_of (Nat.le_refl _) (l01Gcd_any _ _ _ (by omega) (by omega) (by omega) (by omega))))))
      refine wpQuiet_nil ?_
      intro w3 hb3
      obtain ⟨hc3, hf3⟩ := bcell hb3
      have hz1 : w.heap.size < w3.heap.size := Nat.lt_of_lt_of_le lm hb3.size
      have hB3 : Below w.heap.size w w3 := hBW.trans (hb3.mono hBW.size)
      go_wp2_with fail
      go_ret
      exact ⟨rfl, by go_grown⟩
  · rw [show shiftV a b c d = shiftP a b c by unfold shiftV; rw [if_neg ht]]
    obtain ⟨n1, n2⟩ := sign_two (a := a) (b := b) (c := c) (d := d) hdet (by omega)
    clear hk hdet
    have hw1 : IntKind.i64.wrap (a - 1) = a - 1 := IntWalk.i64_in _ (by omega)
    obtain ⟨g0, g1⟩ := gcd_le (x := b) (y := c) (K := 2000000000) (by omega) (by omega)
    obtain ⟨k0, k1⟩ := gcd_le (x := (Int.gcd b c : Int)) (y := a - 1) (K := 2000000000) (by omega) (by omega)
    rcases (show b < 0 ∨ (¬ b < 0 ∧ 0 < c) ∨ (¬ b < 0 ∧ ¬ 0 < c) by omega) with s1 | ⟨s1, s2⟩ | ⟨s1, s2⟩
    · rw [show shiftP a b c = -(Int.gcd (Int.gcd b c : Int) (a - 1) : Int) by unfold shiftP shiftG; rw [if_pos (by omega)]]
      go_enter Try.func58, Try.ntmps58
      go_wp2_with fail
      refine (l01Trace_any _ _ _ _ _ h).mono ?_; rintro e w1 ⟨rfl, hb1⟩
      obtain ⟨hc1, hf1⟩ := bcell hb1
      have hz0 : w.heap.size < w1.heap.size := by have := hb1.size; (try simp at this); omega
      go_wp2_with fail
      refine wp_region_ext (by kernel_rfl) (by kernel_rfl) ?_
      repeat (go_big_quiet_step (((go_at_call 95; refine Calls.ext_of (Nat.le_refl _) (l01Gcd_any _ _ _ (by omega) (by omega) (by omega) (by omega))))))
      refine wpQuiet_nil ?_
      intro w2 hb2
      replace hb2 := bstep hb1 hb2
      clear hc1 hf1 hb1
      obtain ⟨hc2, hf2⟩ := bcell hb2
      have hz2_0 : w.heap.size < w2.heap.size := by have := hb2.size; (try simp at this); omega
      have hB2 : Below w.heap.size w w2 := bfin (by go_grown) hb2
      go_wp2_with fail
      go_ret
      exact ⟨rfl, by go_grown⟩
    · rw [show shiftP a b c = -(Int.gcd (Int.gcd b c : Int) (a - 1) : Int) by unfold shiftP shiftG; rw [if_pos (by omega)]]
      go_enter Try.func58, Try.ntmps58
      go_wp2_with fail
      refine (l01Trace_any _ _ _ _ _ h).mono ?_; rintro e w1 ⟨rfl, hb1⟩
      obtain ⟨hc1, hf1⟩ := bcell hb1
      have hz0 : w.heap.size < w1.heap.size := by have := hb1.size; (try simp at this); omega
      go_wp2_with fail
      refine wp_region_ext (by kernel_rfl) (by kernel_rfl) ?_
      repeat (go_big_quiet_step (((go_at_call 95; refine Calls.ext_of (Nat.le_refl _) (l01Gcd_any _ _ _ (by omega) (by omega) (by omega) (by omega))))))
      refine wpQuiet_nil ?_
      intro w2 hb2
      replace hb2 := bstep hb1 hb2
      clear hc1 hf1 hb1
      obtain ⟨hc2, hf2⟩ := bcell hb2
      have hz2_0 : w.heap.size < w2.heap.size := by have := hb2.size; (try simp at this); omega
      have hB2 : Below w.heap.size w w2 := bfin (by go_grown) hb2
      go_wp2_with fail
      go_ret
      exact ⟨rfl, by go_grown⟩
    · rw [show shiftP a b c = (Int.gcd (Int.gcd b c : Int) (a - 1) : Int) by unfold shiftP shiftG; rw [if_neg (by omega)]]
      go_enter Try.func58, Try.ntmps58
      go_wp2_with fail
      refine (l01Trace_any _ _ _ _ _ h).mono ?_; rintro e w1 ⟨rfl, hb1⟩
      obtain ⟨hc1, hf1⟩ := bcell hb1
      have hz0 : w.heap.size < w1.heap.size := by have := hb1.size; (try simp at this); omega
      go_wp2_with fail
      refine wp_region_ext (by kernel_rfl) (by kernel_rfl) ?_
      repeat (go_big_quiet_step (((go_at_call 95; refine Calls.ext_of (Nat.le_refl _) (l01Gcd_any _ _ _ (by omega) (by omega) (by omega) (by omega))))))
      refine wpQuiet_nil ?_
      intro w2 hb2
      replace hb2 := bstep hb1 hb2
      clear hc1 hf1 hb1
      obtain ⟨hc2, hf2⟩ := bcell hb2
      have hz2_0 : w.heap.size < w2.heap.size := by have := hb2.size; (try simp at this); omega
      have hB2 : Below w.heap.size w w2 := bfin (by go_grown) hb2
      go_wp2_with fail
      go_ret
      exact ⟨rfl, by go_grown⟩
def parRes (a b c d : Int) : Int × Int := if kcode a b c d 2 = 0 then (shiftV a b c d, 0) else (0, kcode a b c d 2)
theorem ParabolicShift_any (a b c d : Int) (w : World) :
    Calls Try.prog 27 #[(.agg #[.int .i64 a, .int .i64 b, .int .i64 c, .int .i64 d])] w fun e w' => e = .returned (.tuple #[(.int .i64 ((parRes a b c d).1)), (.int .i64 ((parRes a b c d).2))]) ∧ Below w.heap.size w w' := by
  have HK := Lib.hid (fun W => kindCode_any a b c d 2 W)
  by_cases hk : kcode a b c d 2 = 0
  · rw [show parRes a b c d = (shiftV a b c d, 0) by simp [parRes, hk]]
    obtain ⟨h1, h2⟩ := kcode_zero hk
    have HS := Lib.hid (fun W => parabolicShift_any a b c d W h1 h2)
    rw [hk] at HK
    clear hk h1 h2
    generalize shiftV a b c d = V at *
    go_enter Try.func27, Try.ntmps27
    go_wp2_with fail
    refine (HK.out _).mono ?_; rintro e w1 ⟨rfl, hb1⟩
    obtain ⟨hc1, hf1⟩ := bcell hb1
    have hz0 : w.heap.size < w1.heap.size := by have := hb1.size; (try simp at this); omega
    go_wp2_with fail
    refine (HS.out _).mono ?_; rintro e w2 ⟨rfl, hb2⟩
    replace hb2 := bstep hb1 hb2
    clear hc1 hf1 hb1
    obtain ⟨hc2, hf2⟩ := bcell hb2
    have hB2 : Below w.heap.size w w2 := bfin (by go_grown) hb2
    go_wp2_with fail
    go_ret2
    exact ⟨rfl, by go_grown⟩
  · rw [show parRes a b c d = (0, kcode a b c d 2) by simp [parRes, hk]]
    have hn : (kcode a b c d 2 != 0) = true := by simpa using hk
    clear hk
    generalize kcode a b c d 2 = K at *
    go_enter Try.func27, Try.ntmps27
    go_wp2_with fail
    refine (HK.out _).mono ?_; rintro e w1 ⟨rfl, hb1⟩
    obtain ⟨hc1, hf1⟩ := bcell hb1
    have hB1 : Below w.heap.size w w1 := bfin (by go_grown) hb1
    go_wp2_with fail
    go_ret2
    exact ⟨rfl, by go_grown⟩
theorem sParabolicShift_any (a b c d : Int) (w : World) :
    Calls Try.prog 26 #[(.agg #[.int .i64 a, .int .i64 b, .int .i64 c, .int .i64 d])] w fun e w' => e = .returned (.tuple #[(.int .i64 ((parRes a b c d).1)), (.int .i64 ((parRes a b c d).2))]) ∧ Below w.heap.size w w' := by
  have HK := Lib.hid (fun W => l04Kind_any a b c d 2 W)
  by_cases hk : kcode a b c d 2 = 0
  · rw [show parRes a b c d = (shiftV a b c d, 0) by simp [parRes, hk]]
    obtain ⟨h1, h2⟩ := kcode_zero hk
    have HS := Lib.hid (fun W => l04Shift_any a b c d W h1 h2)
    rw [hk] at HK
    clear hk h1 h2
    generalize shiftV a b c d = V at *
    go_enter Try.func26, Try.ntmps26
    go_wp2_with fail
    refine (HK.out _).mono ?_; rintro e w1 ⟨rfl, hb1⟩
    obtain ⟨hc1, hf1⟩ := bcell hb1
    have hz0 : w.heap.size < w1.heap.size := by have := hb1.size; (try simp at this); omega
    go_wp2_with fail
    refine (HS.out _).mono ?_; rintro e w2 ⟨rfl, hb2⟩
    replace hb2 := bstep hb1 hb2
    clear hc1 hf1 hb1
    obtain ⟨hc2, hf2⟩ := bcell hb2
    have hB2 : Below w.heap.size w w2 := bfin (by go_grown) hb2
    go_wp2_with fail
    go_ret2
    exact ⟨rfl, by go_grown⟩
  · rw [show parRes a b c d = (0, kcode a b c d 2) by simp [parRes, hk]]
    have hn : (kcode a b c d 2 != 0) = true := by simpa using hk
    clear hk
    generalize kcode a b c d 2 = K at *
    go_enter Try.func26, Try.ntmps26
    go_wp2_with fail
    refine (HK.out _).mono ?_; rintro e w1 ⟨rfl, hb1⟩
    obtain ⟨hc1, hf1⟩ := bcell hb1
    have hB1 : Below w.heap.size w w1 := bfin (by go_grown) hb1
    go_wp2_with fail
    go_ret2
    exact ⟨rfl, by go_grown⟩
theorem lawFnExactParabolicShift (a b c d : Int) (_ : I64 a) (_ : I64 b) (_ : I64 c) (_ : I64 d) (w : World) :
    Calls Try.prog 6 #[(.agg #[.int .i64 a, .int .i64 b, .int .i64 c, .int .i64 d])] w fun e w' => e = .returned (.bool true) ∧ Below w.heap.size w w' := by
  have HS := Lib.hid (sParabolicShift_any a b c d)
  have HI := Lib.hid (ParabolicShift_any a b c d)
  generalize parRes a b c d = R at HS HI
  obtain ⟨x, y⟩ := R
  have hn1 : (x != x) = false := by simp
  have hn2 : (y != y) = false := by simp
  go_enter Try.func6, Try.ntmps6
  go_wp2_with fail
  refine (toMatrix_any _ _ _ _ _).mono ?_; rintro e w1 ⟨rfl, hb1⟩
  obtain ⟨hc1, hf1⟩ := bcell hb1
  go_wp2_with fail
  refine (HS.out _).mono ?_; rintro e w2 ⟨rfl, hb2⟩
  replace hb2 := bstep hb1 hb2
  clear hc1 hf1 hb1
  obtain ⟨hc2, hf2⟩ := bcell hb2
  go_wp2_with fail
  refine (toMatrix_any _ _ _ _ _).mono ?_; rintro e w3 ⟨rfl, hb3⟩
  replace hb3 := bstep hb2 hb3
  clear hc2 hf2 hb2
  obtain ⟨hc3, hf3⟩ := bcell hb3
  go_wp2_with fail
  refine (HI.out _).mono ?_; rintro e w4 ⟨rfl, hb4⟩
  replace hb4 := bstep hb3 hb4
  clear hc3 hf3 hb3
  obtain ⟨hc4, hf4⟩ := bcell hb4
  have hB4 : Below w.heap.size w w4 := bfin (by go_grown) hb4
  go_wp2_with fail
  go_ret
  exact ⟨rfl, by go_grown⟩
end Go.Proofs.Ytencfmipplgnkaa
