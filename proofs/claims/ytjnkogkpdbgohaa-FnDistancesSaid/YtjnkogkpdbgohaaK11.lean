/- Contracts: the distance of two fractions, by the model. -/
import Derived.Test.YtjnkogkpdbgohaaK10
import Derived.Test.YtjnkogkpdbgohaaE6
namespace Go.Proofs.Ytjnkogkpdbgohaa
open Go.RowKit
theorem l01Reduced_cop (p q : Int) (w : World) (hg : (Int.gcd p q : Int) = 1) (q0 : -4000000000000000000 ≤ q) (q1 : q ≤ 4000000000000000000) (p0 : -4000000000000000000 ≤ p) (p1 : p ≤ 4000000000000000000) :
    Calls Try.prog 36 #[(.int .i64 p), (.int .i64 q)] w fun e w' => e = .returned (.agg #[.int .i64 (coSign p q * p), .int .i64 (coSign p q * q)]) ∧ Below w.heap.size w w' := by
  have HD := Lib.hid (fun W => l01Gcd_any p q W (by omega) (by omega) (by omega) (by omega))
  rw [hg] at HD
  by_cases hs : q < 0 ∨ (q = 0 ∧ p < 0)
  · have e : coSign p q = -1 := by unfold coSign; rw [if_pos hs]
    rw [e, show -1 * p = p.tdiv (-1) by rw [Int.tdiv_neg, Int.tdiv_one]; omega, show -1 * q = q.tdiv (-1) by rw [Int.tdiv_neg, Int.tdiv_one]; omega]
    have b1 : -4000000000000000000 ≤ p.tdiv (-1) ∧ p.tdiv (-1) ≤ 4000000000000000000 := by rw [Int.tdiv_neg, Int.tdiv_one]; omega
    have b2 : -4000000000000000000 ≤ q.tdiv (-1) ∧ q.tdiv (-1) ≤ 4000000000000000000 := by rw [Int.tdiv_neg, Int.tdiv_one]; omega
    generalize hX : p.tdiv (-1) = X at *
    generalize hY : q.tdiv (-1) = Y at *
    clear hg e
    rcases hs with hs | ⟨rfl, hs⟩
    · skip
      go_enter Try.func36, Try.ntmps36
      go_wp2_with fail
      refine (HD.out _).mono ?_; rintro e w1 ⟨rfl, hb1⟩
      obtain ⟨hc1, hf1⟩ := bcell hb1
      have hz0 : w.heap.size < w1.heap.size := by have := hb1.size; (try simp at this); omega
      go_wp2_with fail
      refine wp_region_ext_tail 7 (by kernel_rfl) (by kernel_rfl) ?_
      simp only [List.take_succ_cons, List.take_zero, List.drop_succ_cons, List.drop_zero]
      repeat (go_big_quiet_step (fail))
      refine wpQuiet_nil ?_
      intro w2 hb2
      replace hb2 := bstep hb1 hb2
      clear hc1 hf1 hb1
      obtain ⟨hc2, hf2⟩ := bcell hb2
      have hz0 : w.heap.size < w2.heap.size := by have := hb2.size; (try simp at this); omega
      have hB2 : Below w.heap.size w w2 := bfin (by go_grown) hb2
      go_wp2_with fail
      have hall := And.intro hc2 (hz0)
      refine bodyPost_ret (v := (.agg #[.int .i64 X, .int .i64 Y])) (by first | (simp [results, Try.results36, go_sem]; done) | (simp [results, Try.results36, go_sem, hall] <;> rfl)) rfl ⟨rfl, by go_grown⟩
    · skip
      go_enter Try.func36, Try.ntmps36
      go_wp2_with fail
      refine (HD.out _).mono ?_; rintro e w1 ⟨rfl, hb1⟩
      obtain ⟨hc1, hf1⟩ := bcell hb1
      have hz0 : w.heap.size < w1.heap.size := by have := hb1.size; (try simp at this); omega
      go_wp2_with fail
      refine wp_region_ext_tail 7 (by kernel_rfl) (by kernel_rfl) ?_
      simp only [List.take_succ_cons, List.take_zero, List.drop_succ_cons, List.drop_zero]
      repeat (go_big_quiet_step (fail))
      refine wpQuiet_nil ?_
      intro w2 hb2
      replace hb2 := bstep hb1 hb2
      clear hc1 hf1 hb1
      obtain ⟨hc2, hf2⟩ := bcell hb2
      have hz0 : w.heap.size < w2.heap.size := by have := hb2.size; (try simp at this); omega
      have hB2 : Below w.heap.size w w2 := bfin (by go_grown) hb2
      go_wp2_with fail
      have hall := And.intro hc2 (hz0)
      refine bodyPost_ret (v := (.agg #[.int .i64 X, .int .i64 Y])) (by first | (simp [results, Try.results36, go_sem]; done) | (simp [results, Try.results36, go_sem, hall] <;> rfl)) rfl ⟨rfl, by go_grown⟩
  · have e : coSign p q = 1 := by unfold coSign; rw [if_neg hs]
    rw [e, show 1 * p = p.tdiv 1 by rw [Int.tdiv_one]; omega, show 1 * q = q.tdiv 1 by rw [Int.tdiv_one]; omega]
    have b1 : -4000000000000000000 ≤ p.tdiv 1 ∧ p.tdiv 1 ≤ 4000000000000000000 := by rw [Int.tdiv_one]; omega
    have b2 : -4000000000000000000 ≤ q.tdiv 1 ∧ q.tdiv 1 ≤ 4000000000000000000 := by rw [Int.tdiv_one]; omega
    generalize hX : p.tdiv 1 = X at *
    generalize hY : q.tdiv 1 = Y at *
    clear hg e
    by_cases h0 : q = 0
    · subst h0
      have hs' : ¬ p < 0 := fun h => hs (.inr ⟨rfl, h⟩)
      clear hs
      go_enter Try.func36, Try.ntmps36
      go_wp2_with fail
      refine (HD.out _).mono ?_; rintro e w1 ⟨rfl, hb1⟩
      obtain ⟨hc1, hf1⟩ := bcell hb1
      have hz0 : w.heap.size < w1.heap.size := by have := hb1.size; (try simp at this); omega
      go_wp2_with fail
      refine wp_region_ext_tail 7 (by kernel_rfl) (by kernel_rfl) ?_
      simp only [List.take_succ_cons, List.take_zero, List.drop_succ_cons, List.drop_zero]
      repeat (go_big_quiet_step (fail))
      refine wpQuiet_nil ?_
      intro w2 hb2
      replace hb2 := bstep hb1 hb2
      clear hc1 hf1 hb1
      obtain ⟨hc2, hf2⟩ := bcell hb2
      have hz0 : w.heap.size < w2.heap.size := by have := hb2.size; (try simp at this); omega
      have hB2 : Below w.heap.size w w2 := bfin (by go_grown) hb2
      go_wp2_with fail
      have hall := And.intro hc2 (hz0)
      refine bodyPost_ret (v := (.agg #[.int .i64 X, .int .i64 Y])) (by first | (simp [results, Try.results36, go_sem]; done) | (simp [results, Try.results36, go_sem, hall] <;> rfl)) rfl ⟨rfl, by go_grown⟩
    · have hs' : ¬ q < 0 := fun h => hs (.inl h)
      clear hs
      go_enter Try.func36, Try.ntmps36
      go_wp2_with fail
      refine (HD.out _).mono ?_; rintro e w1 ⟨rfl, hb1⟩
      obtain ⟨hc1, hf1⟩ := bcell hb1
      have hz0 : w.heap.size < w1.heap.size := by have := hb1.size; (try simp at this); omega
      go_wp2_with fail
      refine wp_region_ext_tail 7 (by kernel_rfl) (by kernel_rfl) ?_
      simp only [List.take_succ_cons, List.take_zero, List.drop_succ_cons, List.drop_zero]
      repeat (go_big_quiet_step (fail))
      refine wpQuiet_nil ?_
      intro w2 hb2
      replace hb2 := bstep hb1 hb2
      clear hc1 hf1 hb1
      obtain ⟨hc2, hf2⟩ := bcell hb2
      have hz0 : w.heap.size < w2.heap.size := by have := hb2.size; (try simp at this); omega
      have hB2 : Below w.heap.size w w2 := bfin (by go_grown) hb2
      go_wp2_with fail
      have hall := And.intro hc2 (hz0)
      refine bodyPost_ret (v := (.agg #[.int .i64 X, .int .i64 Y])) (by first | (simp [results, Try.results36, go_sem]; done) | (simp [results, Try.results36, go_sem, hall] <;> rfl)) rfl ⟨rfl, by go_grown⟩
theorem coSign_same (p q : Int) : Same ⟨coSign p q * p, coSign p q * q⟩ ⟨p, q⟩ := by
  unfold coSign
  split
  · exact .inr (by simp [vneg])
  · exact .inl (by simp)
theorem coSign_frac {p q : Int} (hg : (Int.gcd p q : Int) = 1) (p0 : -1000000000 ≤ p ∧ p ≤ 1000000000) (q0 : -1000000000 ≤ q ∧ q ≤ 1000000000) : isFrac (coSign p q * p) (coSign p q * q) = true := by
  unfold coSign
  have hn : q = 0 → p = 1 ∨ p = -1 := by
    rintro rfl
    have : (p.natAbs : Int) = 1 := by simpa using hg
    omega
  split
  · refine isFrac_iff.2 ⟨⟨by omega, by omega⟩, ⟨by omega, by omega⟩, ?_, ?_⟩
    · rw [show -1 * p = -p by omega, show -1 * q = -q by omega, Int.gcd_neg, Int.neg_gcd]; exact hg
    · by_cases h0 : q = 0
      · have := hn h0; omega
      · omega
  · refine isFrac_iff.2 ⟨⟨by omega, by omega⟩, ⟨by omega, by omega⟩, ?_, ?_⟩
    · rw [Int.one_mul, Int.one_mul]; exact hg
    · by_cases h0 : q = 0
      · have := hn h0; omega
      · omega
/-- The image of g under the matrix that leads f to infinity. -/
structure Img (a b c d r s : Int) : Prop where
  x0 : -1000000000000 ≤ s * c ∧ s * c ≤ 1000000000000
  x1 : -1000000000000 ≤ -r * d ∧ -r * d ≤ 1000000000000
  y0 : -1000000000000 ≤ -b * c ∧ -b * c ≤ 1000000000000
  y1 : -1000000000000 ≤ a * d ∧ a * d ≤ 1000000000000
  x : -1000000000 ≤ s * c + -r * d ∧ s * c + -r * d ≤ 1000000000
  y : -1000000000 ≤ -b * c + a * d ∧ -b * c + a * d ≤ 1000000000
  g : (Int.gcd (s * c + -r * d) (-b * c + a * d) : Int) = 1
theorem img {a b c d r s : Int} (hd : a * s - b * r = 1) (hg : Int.gcd c d = 1) (h1 : -b - 1 ≤ s ∧ s ≤ b + 1) (h2 : b = 0 → r = 0) (ha : -10000 ≤ a ∧ a ≤ 10000) (hb : 0 ≤ b ∧ b ≤ 10000) (hc : -10000 ≤ c ∧ c ≤ 10000) (hdd : -10000 ≤ d ∧ d ≤ 10000) : Img a b c d r s := by
  have hr : -20003 ≤ r ∧ r ≤ 20003 := by
    by_cases h0 : b = 0
    · have := h2 h0; omega
    · have hm := mul_bd (A := 10000) (B := b + 1) ha.1 ha.2 (show -(b + 1) ≤ s by omega) (show s ≤ b + 1 by omega)
      refine ⟨Int.not_lt.1 fun h => ?_, Int.not_lt.1 fun h => ?_⟩
      · have := Int.mul_le_mul_of_nonneg_left (show r ≤ -20003 by omega) hb.1
        omega
      · have := Int.mul_le_mul_of_nonneg_left (show 20003 ≤ r by omega) hb.1
        omega
  have e1 := mul_bd (A := 10001) (B := 10000) (show -10001 ≤ s by omega) (by omega) hc.1 hc.2
  have e2 := mul_bd (A := 20003) (B := 10000) (show -20003 ≤ -r by omega) (by omega) hdd.1 hdd.2
  have e3 := mul_bd (A := 10000) (B := 10000) (show -10000 ≤ -b by omega) (by omega) hc.1 hc.2
  have e4 := mul_bd (A := 10000) (B := 10000) ha.1 ha.2 hdd.1 hdd.2
  have hl := lead_gcd hd hg
  rw [show s * c - r * d = s * c + -r * d by rw [Int.neg_mul]; omega, show a * d - b * c = -b * c + a * d by rw [Int.neg_mul]; omega] at hl
  exact ⟨by omega, by omega, by omega, by omega, by omega, by omega, by exact_mod_cast hl⟩
theorem img_dist {a b c d r s : Int} {n : Nat} (h : a * s - b * r = 1) (hd : IsD vInf ⟨coSign (s * c + -r * d) (-b * c + a * d) * (s * c + -r * d), coSign (s * c + -r * d) (-b * c + a * d) * (-b * c + a * d)⟩ n) : IsD ⟨a, b⟩ ⟨c, d⟩ n := by
  have h1 := hd.same (coSign_same _ _)
  rw [show s * c + -r * d = s * c - r * d by rw [Int.neg_mul]; omega, show -b * c + a * d = a * d - b * c by rw [Int.neg_mul]; omega] at h1
  exact lead_dist h h1
set_option maxRecDepth 100000 in
set_option maxHeartbeats 4000000 in
theorem sDistanceOf_any (a b c d : Int) (w : World) :
    Calls Try.prog 16 #[(.agg #[.int .i64 a, .int .i64 b]), (.agg #[.int .i64 c, .int .i64 d])] w fun e w' => DistSay a b c d e ∧ Below w.heap.size w w' := by
  have HF := Lib.hid (fun W => l03Both_any a b c d W)
  unfold DistSay
  unfold bothC at HF
  cases hf : (isFrac a b && isFrac c d)
  · rw [show distC a b c d = 1 by simp [distC, hf]]
    rw [hf] at HF
    simp only [Bool.false_eq_true, if_false] at HF
    go_enter Try.func16, Try.ntmps16
    go_wp2_with fail
    refine (HF.out _).mono ?_; rintro e w1 ⟨rfl, hb1⟩
    obtain ⟨hc1, hf1⟩ := bcell hb1
    have hB1 : Below w.heap.size w w1 := bfin (by go_grown) hb1
    go_wp2_with fail
    go_ret2
    exact ⟨⟨0, rfl, fun _ => rfl, fun h => by omega⟩, hB1⟩
  rw [hf] at HF
  simp only [if_true] at HF
  have hdc : distC a b c d = if farB a b c d = true then 0 else 3 := by simp [distC, hf]
  rw [Bool.and_eq_true] at hf
  obtain ⟨⟨a0, a1⟩, b0, b1, hg1, -⟩ := frac_e9 hf.1
  obtain ⟨⟨c0, c1⟩, d0, d1, hg2, -⟩ := frac_e9 hf.2
  have HI := Lib.hid (fun W => l03ToInfinity_any a b W hf.1)
  rw [hdc]
  clear hdc
  by_cases hfar : -10000 ≤ a ∧ a ≤ 10000 ∧ b ≤ 10000 ∧ -10000 ≤ c ∧ c ≤ 10000 ∧ d ≤ 10000
  · rw [show farB a b c d = true by simp [farB, hfar]]
    simp only [if_true]
    obtain ⟨k1, k2, k3, k4, k5, k6⟩ := hfar
    have q1 : inB a (-10000) 10000 = true := by simp [inB]; omega
    have q2 : inB b (-10000) 10000 = true := by simp [inB]; omega
    have q3 : inB c (-10000) 10000 = true := by simp [inB]; omega
    have q4 : inB d (-10000) 10000 = true := by simp [inB]; omega
    have H1 := Lib.hid (fun W => l01In_any a (-10000) 10000 W)
    have H2 := Lib.hid (fun W => l01In_any b (-10000) 10000 W)
    have H3 := Lib.hid (fun W => l01In_any c (-10000) 10000 W)
    have H4 := Lib.hid (fun W => l01In_any d (-10000) 10000 W)
    rw [q1] at H1
    rw [q2] at H2
    rw [q3] at H3
    rw [q4] at H4
    have HG := Lib.hid (fun r s h1 h2 h3 => img (a := a) (b := b) (c := c) (d := d) (r := r) (s := s) h1 hg2 h2 h3 ⟨k1, k2⟩ ⟨b0, k3⟩ ⟨k4, k5⟩ ⟨by omega, k6⟩)
    clear hf q1 q2 q3 q4 hg1 hg2
    go_enter Try.func16, Try.ntmps16
    go_wp2_with fail
    refine (HF.out _).mono ?_; rintro e w1 ⟨rfl, hb1⟩
    obtain ⟨hc1, hf1⟩ := bcell hb1
    have HGB := Lib.hid (heap_below (heap_new' (w := w.alloc (.cells #[(.int .i64 a), (.int .i64 b)] 25)) (p := .cells #[(.int .i64 c), (.int .i64 d)] 25) (b := w.heap.size + 1) (by simp)) hb1)
    obtain ⟨hz1_0, hz1_1⟩ : w.heap.size < w1.heap.size ∧ w.heap.size + 1 < w1.heap.size := by have := hb1.size; (try simp at this); omega
    have hB1 : Below w.heap.size w w1 := bfin (by go_grown) hb1
    go_wp2_with fail
    refine wp_loop_rounds 3 ?_
    rw [rounds_succ]
    go_wp2_with (first | (with_reducible refine (H1.out _).mono ?_; rintro e w' ⟨rfl, rfl⟩) | (with_reducible refine (H2.out _).mono ?_; rintro e w' ⟨rfl, rfl⟩) | (with_reducible refine (H3.out _).mono ?_; rintro e w' ⟨rfl, rfl⟩) | (with_reducible refine (H4.out _).mono ?_; rintro e w' ⟨rfl, rfl⟩))
    rw [rounds_succ]
    go_wp2_with (first | (with_reducible refine (H1.out _).mono ?_; rintro e w' ⟨rfl, rfl⟩) | (with_reducible refine (H2.out _).mono ?_; rintro e w' ⟨rfl, rfl⟩) | (with_reducible refine (H3.out _).mono ?_; rintro e w' ⟨rfl, rfl⟩) | (with_reducible refine (H4.out _).mono ?_; rintro e w' ⟨rfl, rfl⟩))
    rw [rounds_succ]
    go_wp2_with fail
    refine (HI.out _).mono ?_; rintro e w2 ⟨⟨r, s, rfl, hdet, hs, hr⟩, hb2⟩
    have hB2 := bfin hB1 hb2
    have HGB2 := Lib.hid (show Blk2 w2 (w.heap.size + 1) 25 c d from heap_below HGB.out hb2)
    obtain ⟨⟨g0, g1⟩, -, hlg⟩ := HGB2.out.open_
    have hz2 := hb2.size
    clear HGB
    have HI2 := Lib.hid (HG.out r s hdet hs hr)
    have HD := Lib.hid (fun n h => img_dist (c := c) (d := d) (n := n) hdet h)
    obtain ⟨⟨x0, x1⟩, ⟨x2, x3⟩, ⟨y0, y1⟩, ⟨y2, y3⟩, ⟨x4, x5⟩, ⟨y4, y5⟩, gg⟩ := HI2.out
    clear HI2
    have HR := Lib.hid (fun W => l01Reduced_cop (s * c + -r * d) (-b * c + a * d) W gg (by omega) (by omega) (by omega) (by omega))
    have HX := Lib.hid (fun W => l03Far_any _ _ W (coSign_frac gg ⟨x4, x5⟩ ⟨y4, y5⟩))
    clear HG hdet hs hr HI gg H1 H2 H3 H4 HF
    go_wp2_with fail
    refine (HR.out _).mono ?_; rintro e w3 ⟨rfl, hb3⟩
    have hB3 := bfin (hB2.alloc hB2.size _) hb3
    have hz3 := hb3.size
    clear HR
    generalize coSign (s * c + -r * d) (-b * c + a * d) * (s * c + -r * d) = X at *
    generalize coSign (s * c + -r * d) (-b * c + a * d) * (-b * c + a * d) = Y at *
    go_wp2_with fail
    refine (HX.out _).mono ?_; rintro e w4 ⟨n, rfl, hn, hb4⟩
    have hB4 := bfin (hB3.alloc hB3.size _) hb4
    have HN := Lib.hid (HD.out n hn)
    clear hn HX HD
    go_wp2_with fail
    go_ret2
    exact ⟨⟨n, rfl, fun h => absurd rfl h, fun _ => ⟨n, rfl, HN.out⟩⟩, hB4⟩
  · rw [show farB a b c d = false by simp only [farB, decide_eq_false_iff_not]; exact hfar]
    simp only [Bool.false_eq_true, if_false]
    have H1 := Lib.hid (fun W => l01In_any a (-10000) 10000 W)
    have H2 := Lib.hid (fun W => l01In_any b (-10000) 10000 W)
    have H3 := Lib.hid (fun W => l01In_any c (-10000) 10000 W)
    have H4 := Lib.hid (fun W => l01In_any d (-10000) 10000 W)
    have hall : ¬ (inB a (-10000) 10000 = true ∧ inB c (-10000) 10000 = true ∧ inB b (-10000) 10000 = true ∧ inB d (-10000) 10000 = true) := by
      simp only [inB, Bool.and_eq_true, decide_eq_true_eq]
      omega
    clear hf hfar HI hg1 hg2
    generalize inB a (-10000) 10000 = A at *
    generalize inB b (-10000) 10000 = B at *
    generalize inB c (-10000) 10000 = C at *
    generalize inB d (-10000) 10000 = D at *
    cases A
    · skip
      clear hall
      go_enter Try.func16, Try.ntmps16
      go_wp2_with fail
      refine (HF.out _).mono ?_; rintro e w1 ⟨rfl, hb1⟩
      obtain ⟨hc1, hf1⟩ := bcell hb1
      obtain ⟨hz1_0, hz1_1⟩ : w.heap.size < w1.heap.size ∧ w.heap.size + 1 < w1.heap.size := by have := hb1.size; (try simp at this); omega
      have hB1 : Below w.heap.size w w1 := bfin (by go_grown) hb1
      go_wp2_with fail
      refine wp_loop_rounds 3 ?_
      rw [rounds_succ]
      go_wp2_with (first | (with_reducible refine (H1.out _).mono ?_; rintro e w' ⟨rfl, rfl⟩) | (with_reducible refine (H2.out _).mono ?_; rintro e w' ⟨rfl, rfl⟩) | (with_reducible refine (H3.out _).mono ?_; rintro e w' ⟨rfl, rfl⟩) | (with_reducible refine (H4.out _).mono ?_; rintro e w' ⟨rfl, rfl⟩))
      go_ret2
      exact ⟨⟨0, rfl, fun _ => rfl, fun h => by omega⟩, hB1⟩
    cases C
    · skip
      clear hall
      go_enter Try.func16, Try.ntmps16
      go_wp2_with fail
      refine (HF.out _).mono ?_; rintro e w1 ⟨rfl, hb1⟩
      obtain ⟨hc1, hf1⟩ := bcell hb1
      obtain ⟨hz1_0, hz1_1⟩ : w.heap.size < w1.heap.size ∧ w.heap.size + 1 < w1.heap.size := by have := hb1.size; (try simp at this); omega
      have hB1 : Below w.heap.size w w1 := bfin (by go_grown) hb1
      go_wp2_with fail
      refine wp_loop_rounds 3 ?_
      rw [rounds_succ]
      go_wp2_with (first | (with_reducible refine (H1.out _).mono ?_; rintro e w' ⟨rfl, rfl⟩) | (with_reducible refine (H2.out _).mono ?_; rintro e w' ⟨rfl, rfl⟩) | (with_reducible refine (H3.out _).mono ?_; rintro e w' ⟨rfl, rfl⟩) | (with_reducible refine (H4.out _).mono ?_; rintro e w' ⟨rfl, rfl⟩))
      go_ret2
      exact ⟨⟨0, rfl, fun _ => rfl, fun h => by omega⟩, hB1⟩
    cases B
    · skip
      clear hall
      go_enter Try.func16, Try.ntmps16
      go_wp2_with fail
      refine (HF.out _).mono ?_; rintro e w1 ⟨rfl, hb1⟩
      obtain ⟨hc1, hf1⟩ := bcell hb1
      obtain ⟨hz1_0, hz1_1⟩ : w.heap.size < w1.heap.size ∧ w.heap.size + 1 < w1.heap.size := by have := hb1.size; (try simp at this); omega
      have hB1 : Below w.heap.size w w1 := bfin (by go_grown) hb1
      go_wp2_with fail
      refine wp_loop_rounds 3 ?_
      rw [rounds_succ]
      go_wp2_with (first | (with_reducible refine (H1.out _).mono ?_; rintro e w' ⟨rfl, rfl⟩) | (with_reducible refine (H2.out _).mono ?_; rintro e w' ⟨rfl, rfl⟩) | (with_reducible refine (H3.out _).mono ?_; rintro e w' ⟨rfl, rfl⟩) | (with_reducible refine (H4.out _).mono ?_; rintro e w' ⟨rfl, rfl⟩))
      rw [rounds_succ]
      go_wp2_with (first | (with_reducible refine (H1.out _).mono ?_; rintro e w' ⟨rfl, rfl⟩) | (with_reducible refine (H2.out _).mono ?_; rintro e w' ⟨rfl, rfl⟩) | (with_reducible refine (H3.out _).mono ?_; rintro e w' ⟨rfl, rfl⟩) | (with_reducible refine (H4.out _).mono ?_; rintro e w' ⟨rfl, rfl⟩))
      go_ret2
      exact ⟨⟨0, rfl, fun _ => rfl, fun h => by omega⟩, hB1⟩
    cases D
    · skip
      clear hall
      go_enter Try.func16, Try.ntmps16
      go_wp2_with fail
      refine (HF.out _).mono ?_; rintro e w1 ⟨rfl, hb1⟩
      obtain ⟨hc1, hf1⟩ := bcell hb1
      obtain ⟨hz1_0, hz1_1⟩ : w.heap.size < w1.heap.size ∧ w.heap.size + 1 < w1.heap.size := by have := hb1.size; (try simp at this); omega
      have hB1 : Below w.heap.size w w1 := bfin (by go_grown) hb1
      go_wp2_with fail
      refine wp_loop_rounds 3 ?_
      rw [rounds_succ]
      go_wp2_with (first | (with_reducible refine (H1.out _).mono ?_; rintro e w' ⟨rfl, rfl⟩) | (with_reducible refine (H2.out _).mono ?_; rintro e w' ⟨rfl, rfl⟩) | (with_reducible refine (H3.out _).mono ?_; rintro e w' ⟨rfl, rfl⟩) | (with_reducible refine (H4.out _).mono ?_; rintro e w' ⟨rfl, rfl⟩))
      rw [rounds_succ]
      go_wp2_with (first | (with_reducible refine (H1.out _).mono ?_; rintro e w' ⟨rfl, rfl⟩) | (with_reducible refine (H2.out _).mono ?_; rintro e w' ⟨rfl, rfl⟩) | (with_reducible refine (H3.out _).mono ?_; rintro e w' ⟨rfl, rfl⟩) | (with_reducible refine (H4.out _).mono ?_; rintro e w' ⟨rfl, rfl⟩))
      go_ret2
      exact ⟨⟨0, rfl, fun _ => rfl, fun h => by omega⟩, hB1⟩
    exact absurd ⟨rfl, rfl, rfl, rfl⟩ hall
end Go.Proofs.Ytjnkogkpdbgohaa
