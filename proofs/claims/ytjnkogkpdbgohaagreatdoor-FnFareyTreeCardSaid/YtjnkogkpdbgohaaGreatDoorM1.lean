/- Words of other texts for the law of Farey's tree (printed by gen_m1.py). -/
import Derived.Test.YtjnkogkpdbgohaaGreatDoorE6
import Derived.Test.YtjnkogkpdbgohaaGreatDoorK1
namespace Go.Proofs.YtjnkogkpdbgohaaGreatDoor
open Go.RowKit
theorem gcd_of_det {p q r s : Int} (h : p * s - q * r = 1 ∨ p * s - q * r = -1) : Int.gcd p q = 1 := by
  have h1 : (Int.gcd p q : Int) ∣ p * s - q * r := Int.dvd_sub (Int.dvd_mul_of_dvd_left (Int.gcd_dvd_left _ _)) (Int.dvd_mul_of_dvd_left (Int.gcd_dvd_right _ _))
  have h2 : (Int.gcd p q : Int) ∣ 1 := by
    rcases h with h | h <;> rw [h] at h1
    · exact h1
    · exact Int.dvd_neg.1 h1
  have := Int.le_of_dvd (by omega) h2
  have h3 : Int.gcd p q ≠ 0 := by
    intro e
    rw [e] at h2
    have := Int.zero_dvd.1 h2
    omega
  omega
theorem l01Reduced_cop (p q : Int) (w : World) (hg : (Int.gcd p q : Int) = 1) (q0 : -4000000000000000000 ≤ q) (q1 : q ≤ 4000000000000000000) (p0 : -4000000000000000000 ≤ p) (p1 : p ≤ 4000000000000000000) :
    Calls Tryz.prog 64 #[(.int .i64 p), (.int .i64 q)] w fun e w' => e = .returned (.agg #[.int .i64 (coSign p q * p), .int .i64 (coSign p q * q)]) ∧ Below w.heap.size w w' := by
  have HD := Lib.hid (fun W => l01Gcd_any p q W (by omega) (by omega) (by omega) (by omega))
  rw [hg] at HD
  by_cases hs : q < 0 ∨ (q = 0 ∧ p < 0)
  · have e : coSign p q = -1 := by unfold coSign; rw [if_pos hs]
    rw [e, show -1 * p = p.tdiv (-1) by rw [Int.tdiv_neg, Int.tdiv_one]; omega, show -1 * q = q.tdiv (-1) by rw [Int.tdiv_neg, Int.tdiv_one]; omega]
    have b1 : -4000000000000000000 ≤ p.tdiv (-1) ∧ p.tdiv (-1) ≤ 4000000000000000000 := by rw [Int.tdiv_neg, Int.tdiv_one]; omega
    have b2 : -4000000000000000000 ≤ q.tdiv (-1) ∧ q.tdiv (-1) ≤ 4000000000000000000 := by rw [Int.tdiv_neg, Int.tdiv_one]; omega
    generalize hX : p.tdiv (-1) = X at *
    generalize hY : q.tdiv (-1) = Y at *
    clear hg e
    rcases hs with hs | ⟨rfl, hs⟩
    · skip
      go_enter Tryz.func64, Tryz.ntmps64
      go_wp2_with fail
      refine (HD.out _).mono ?_; rintro e w1 ⟨rfl, hb1⟩
      obtain ⟨hc1, hf1⟩ := bcell hb1
      have hz0 : w.heap.size < w1.heap.size := by have := hb1.size; (try simp at this); omega
      go_wp2_with fail
      refine wp_region_ext_tail 7 (by kernel_rfl) (by kernel_rfl) ?_
      simp only [List.take_succ_cons, List.take_zero, List.drop_succ_cons, List.drop_zero]
      repeat (go_big_quiet_step (fail))
      refine wpQuiet_nil ?_
      intro w2 hb2
      replace hb2 := bstep hb1 hb2
      clear hc1 hf1 hb1
      obtain ⟨hc2, hf2⟩ := bcell hb2
      have hz0 : w.heap.size < w2.heap.size := by have := hb2.size; (try simp at this); omega
      have hB2 : Below w.heap.size w w2 := bfin (by go_grown) hb2
      go_wp2_with fail
      have hall := And.intro hc2 (hz0)
      refine bodyPost_ret (v := (.agg #[.int .i64 X, .int .i64 Y])) (by first | (simp [results, Tryz.results64, go_sem]; done) | (simp [results, Tryz.results64, go_sem, hall] <;> rfl)) rfl ⟨rfl, by go_grown⟩
    · skip
      go_enter Tryz.func64, Tryz.ntmps64
      go_wp2_with fail
      refine (HD.out _).mono ?_; rintro e w1 ⟨rfl, hb1⟩
      obtain ⟨hc1, hf1⟩ := bcell hb1
      have hz0 : w.heap.size < w1.heap.size := by have := hb1.size; (try simp at this); omega
      go_wp2_with fail
      refine wp_region_ext_tail 7 (by kernel_rfl) (by kernel_rfl) ?_
      simp only [List.take_succ_cons, List.take_zero, List.drop_succ_cons, List.drop_zero]
      repeat (go_big_quiet_step (fail))
      refine wpQuiet_nil ?_
      intro w2 hb2
      replace hb2 := bstep hb1 hb2
      clear hc1 hf1 hb1
      obtain ⟨hc2, hf2⟩ := bcell hb2
      have hz0 : w.heap.size < w2.heap.size := by have := hb2.size; (try simp at this); omega
      have hB2 : Below w.heap.size w w2 := bfin (by go_grown) hb2
      go_wp2_with fail
      have hall := And.intro hc2 (hz0)
      refine bodyPost_ret (v := (.agg #[.int .i64 X, .int .i64 Y])) (by first | (simp [results, Tryz.results64, go_sem]; done) | (simp [results, Tryz.results64, go_sem, hall] <;> rfl)) rfl ⟨rfl, by go_grown⟩
  · have e : coSign p q = 1 := by unfold coSign; rw [if_neg hs]
    rw [e, show 1 * p = p.tdiv 1 by rw [Int.tdiv_one]; omega, show 1 * q = q.tdiv 1 by rw [Int.tdiv_one]; omega]
    have b1 : -4000000000000000000 ≤ p.tdiv 1 ∧ p.tdiv 1 ≤ 4000000000000000000 := by rw [Int.tdiv_one]; omega
    have b2 : -4000000000000000000 ≤ q.tdiv 1 ∧ q.tdiv 1 ≤ 4000000000000000000 := by rw [Int.tdiv_one]; omega
    generalize hX : p.tdiv 1 = X at *
    generalize hY : q.tdiv 1 = Y at *
    clear hg e
    by_cases h0 : q = 0
    · subst h0
      have hs' : ¬ p < 0 := fun h => hs (.inr ⟨rfl, h⟩)
      clear hs
      go_enter Tryz.func64, Tryz.ntmps64
      go_wp2_with fail
      refine (HD.out _).mono ?_; rintro e w1 ⟨rfl, hb1⟩
      obtain ⟨hc1, hf1⟩ := bcell hb1
      have hz0 : w.heap.size < w1.heap.size := by have := hb1.size; (try simp at this); omega
      go_wp2_with fail
      refine wp_region_ext_tail 7 (by kernel_rfl) (by kernel_rfl) ?_
      simp only [List.take_succ_cons, List.take_zero, List.drop_succ_cons, List.drop_zero]
      repeat (go_big_quiet_step (fail))
      refine wpQuiet_nil ?_
      intro w2 hb2
      replace hb2 := bstep hb1 hb2
      clear hc1 hf1 hb1
      obtain ⟨hc2, hf2⟩ := bcell hb2
      have hz0 : w.heap.size < w2.heap.size := by have := hb2.size; (try simp at this); omega
      have hB2 : Below w.heap.size w w2 := bfin (by go_grown) hb2
      go_wp2_with fail
      have hall := And.intro hc2 (hz0)
      refine bodyPost_ret (v := (.agg #[.int .i64 X, .int .i64 Y])) (by first | (simp [results, Tryz.results64, go_sem]; done) | (simp [results, Tryz.results64, go_sem, hall] <;> rfl)) rfl ⟨rfl, by go_grown⟩
    · have hs' : ¬ q < 0 := fun h => hs (.inl h)
      clear hs
      go_enter Tryz.func64, Tryz.ntmps64
      go_wp2_with fail
      refine (HD.out _).mono ?_; rintro e w1 ⟨rfl, hb1⟩
      obtain ⟨hc1, hf1⟩ := bcell hb1
      have hz0 : w.heap.size < w1.heap.size := by have := hb1.size; (try simp at this); omega
      go_wp2_with fail
      refine wp_region_ext_tail 7 (by kernel_rfl) (by kernel_rfl) ?_
      simp only [List.take_succ_cons, List.take_zero, List.drop_succ_cons, List.drop_zero]
      repeat (go_big_quiet_step (fail))
      refine wpQuiet_nil ?_
      intro w2 hb2
      replace hb2 := bstep hb1 hb2
      clear hc1 hf1 hb1
      obtain ⟨hc2, hf2⟩ := bcell hb2
      have hz0 : w.heap.size < w2.heap.size := by have := hb2.size; (try simp at this); omega
      have hB2 : Below w.heap.size w w2 := bfin (by go_grown) hb2
      go_wp2_with fail
      have hall := And.intro hc2 (hz0)
      refine bodyPost_ret (v := (.agg #[.int .i64 X, .int .i64 Y])) (by first | (simp [results, Tryz.results64, go_sem]; done) | (simp [results, Tryz.results64, go_sem, hall] <;> rfl)) rfl ⟨rfl, by go_grown⟩
def sg (n : Int) : Int := if n < 0 then -1 else if 0 < n then 1 else 0
theorem sign_any (n : Int) (w : World) : Calls Tryz.prog 73 #[(.int .i64 n)] w fun e w' => e = .returned (.int .i64 (sg n)) ∧ w = w' := by
  by_cases h : n < 0 <;> by_cases h2 : 0 < n
  all_goals
    go_enter Tryz.func73, Tryz.ntmps73
    go_wp2
    go_ret
    exact ⟨ret_int (by simp [sg] <;> omega), rfl⟩
end Go.Proofs.YtjnkogkpdbgohaaGreatDoor
