/- Contracts: fractions. -/
import Derived.Test.YtencfmipplgnkaaC9
import Derived.Test.YtencfmipplgnkaaNa
namespace Go.Proofs.Ytencfmipplgnkaa
open Go.RowKit
theorem toFraction_any (a b : Int) (w : World) :
    Calls Try.prog 13 #[(.agg #[.int .i64 a, .int .i64 b])] w fun e w' => e = .returned (.agg #[.int .i64 a, .int .i64 b]) ∧ Below w.heap.size w w' := by
  go_enter Try.func13, Try.ntmps13
  go_wp2
  go_rounds 3
  go_returns
  exact ⟨rfl, by go_grown⟩
theorem eqFraction_same (a b : Int) (w : World) :
    Calls Try.prog 53 #[(.agg #[.int .i64 a, .int .i64 b]), (.agg #[.int .i64 a, .int .i64 b])] w fun e w' => e = .returned (.bool true) ∧ Below w.heap.size w w' := by
  have h1 : (a != a) = false := by simp
  have h2 : (b != b) = false := by simp
  go_enter Try.func53, Try.ntmps53
  go_wp2
  refine wp_loop_rounds 3 ?_
  iterate 2 (rw [rounds_succ]; go_wp2; go_quiet (fail); go_wp2)
  rw [rounds_succ]; go_wp2
  go_returns
  exact ⟨rfl, below_drewN (by go_grown) _⟩
theorem allB2 (a b : Int) : (allB 2 fun i => entB (if i = 0 then a else b)) = (entB a && entB b) := by
  simp [allB, List.range_succ]
theorem IsFraction_any (a b : Int) (w : World) :
    Calls Try.prog 48 #[(.agg #[.int .i64 a, .int .i64 b])] w fun e w' => e = .returned (.bool (isFrac a b)) ∧ Below w.heap.size w w' := by
  cases he : (entB a && entB b)
  · have HE := Lib.hid he
    have HR : isFrac a b = false := by
      cases h : isFrac a b
      · rfl
      · have := isFrac_iff.1 h
        have h2 : (entB a && entB b) = true := by rw [Bool.and_eq_true, entB_iff, entB_iff]; omega
        rw [he] at h2; exact h2.symm
    rw [HR]
    clear HR he
    go_enter Try.func48, Try.ntmps48
    go_wp2_with (go_at_call 100; refine (areEntries_any _ _ _ 2 (fun i => if i = 0 then a else b) _ (by omega) (by intro i hi; rcases (show i = 0 ∨ i = 1 by omega) with rfl | rfl <;> simp)).mono ?_; rw [allB2, HE.out]; rintro e w' ⟨rfl, rfl⟩)
    go_ret
    exact ⟨rfl, by go_grown⟩
  · have HE := Lib.hid he
    simp only [Bool.and_eq_true, entB_iff] at he
    obtain ⟨⟨a0, a1⟩, ⟨b0, b1⟩⟩ := he
    have HI := Lib.hid (@isFrac_iff a b)
    by_cases h0 : 0 ≤ b
    · have HD := Lib.hid (fun W => divisor_any a b W (by omega) (by omega) (by omega) (by omega))
      by_cases hg : (Int.gcd a b : Int) = 1
      · rw [hg] at HD
        by_cases hb : 0 < b
        · skip
          rw [show isFrac a b = true by exact isFrac_iff.2 ⟨⟨a0, a1⟩, ⟨h0, b1⟩, hg, .inl hb⟩]
          clear hg
          go_enter Try.func48, Try.ntmps48
          go_wp2_with (go_at_call 100; refine (areEntries_any _ _ _ 2 (fun i => if i = 0 then a else b) _ (by omega) (by intro i hi; rcases (show i = 0 ∨ i = 1 by omega) with rfl | rfl <;> simp)).mono ?_; rw [allB2, HE.out]; rintro e w' ⟨rfl, rfl⟩)
          refine (HD.out _).mono ?_; rintro e w1 ⟨rfl, hb1⟩
          obtain ⟨hc1, hf1⟩ := bcell hb1
          have hz0 : w.heap.size < w1.heap.size := by have := hb1.size; (try simp at this); omega
          have hB1 : Below w.heap.size w w1 := bfin (by go_grown) hb1
          go_wp2_with fail
          go_ret
          exact ⟨rfl, by go_grown⟩
        · obtain rfl : b = 0 := by omega
          by_cases ha : a = 1
          · subst ha
            rw [show isFrac 1 0 = true by exact isFrac_iff.2 ⟨⟨a0, a1⟩, ⟨h0, b1⟩, hg, .inr rfl⟩]
            clear hg
            go_enter Try.func48, Try.ntmps48
            go_wp2_with (go_at_call 100; refine (areEntries_any _ _ _ 2 (fun i => if i = 0 then 1 else 0) _ (by omega) (by intro i hi; rcases (show i = 0 ∨ i = 1 by omega) with rfl | rfl <;> simp)).mono ?_; rw [allB2, HE.out]; rintro e w' ⟨rfl, rfl⟩)
            refine (HD.out _).mono ?_; rintro e w1 ⟨rfl, hb1⟩
            obtain ⟨hc1, hf1⟩ := bcell hb1
            have hz0 : w.heap.size < w1.heap.size := by have := hb1.size; (try simp at this); omega
            have hB1 : Below w.heap.size w w1 := bfin (by go_grown) hb1
            go_wp2_with fail
            go_ret
            exact ⟨rfl, by go_grown⟩
          · skip
            rw [show isFrac a 0 = false by exact Bool.eq_false_iff.2 fun h => by have := (isFrac_iff.1 h).2.2.2; omega]
            clear hg
            go_enter Try.func48, Try.ntmps48
            go_wp2_with (go_at_call 100; refine (areEntries_any _ _ _ 2 (fun i => if i = 0 then a else 0) _ (by omega) (by intro i hi; rcases (show i = 0 ∨ i = 1 by omega) with rfl | rfl <;> simp)).mono ?_; rw [allB2, HE.out]; rintro e w' ⟨rfl, rfl⟩)
            refine (HD.out _).mono ?_; rintro e w1 ⟨rfl, hb1⟩
            obtain ⟨hc1, hf1⟩ := bcell hb1
            have hz0 : w.heap.size < w1.heap.size := by have := hb1.size; (try simp at this); omega
            have hB1 : Below w.heap.size w w1 := bfin (by go_grown) hb1
            go_wp2_with fail
            go_ret
            exact ⟨ret_bool (by simp [ha]), by go_grown⟩
      · skip
        rw [show isFrac a b = false by exact Bool.eq_false_iff.2 fun h => hg (isFrac_iff.1 h).2.2.1]
        generalize (Int.gcd a b : Int) = G at HD hg
        go_enter Try.func48, Try.ntmps48
        go_wp2_with (go_at_call 100; refine (areEntries_any _ _ _ 2 (fun i => if i = 0 then a else b) _ (by omega) (by intro i hi; rcases (show i = 0 ∨ i = 1 by omega) with rfl | rfl <;> simp)).mono ?_; rw [allB2, HE.out]; rintro e w' ⟨rfl, rfl⟩)
        refine (HD.out _).mono ?_; rintro e w1 ⟨rfl, hb1⟩
        obtain ⟨hc1, hf1⟩ := bcell hb1
        have hz0 : w.heap.size < w1.heap.size := by have := hb1.size; (try simp at this); omega
        have hB1 : Below w.heap.size w w1 := bfin (by go_grown) hb1
        go_wp2_with fail
        go_ret
        exact ⟨rfl, by go_grown⟩
    · rw [show isFrac a b = false by cases h : isFrac a b with | false => rfl | true => exact absurd (isFrac_iff.1 h).2.1.1 h0]
      go_enter Try.func48, Try.ntmps48
      go_wp2_with (go_at_call 100; refine (areEntries_any _ _ _ 2 (fun i => if i = 0 then a else b) _ (by omega) (by intro i hi; rcases (show i = 0 ∨ i = 1 by omega) with rfl | rfl <;> simp)).mono ?_; rw [allB2, HE.out]; rintro e w' ⟨rfl, rfl⟩)
      go_ret
      exact ⟨rfl, by go_grown⟩
theorem l01Fraction_any (a b : Int) (w : World) :
    Calls Try.prog 43 #[(.agg #[.int .i64 a, .int .i64 b])] w fun e w' => e = .returned (.bool (isFrac a b)) ∧ Below w.heap.size w w' := by
  cases he : entB a
  · rw [show isFrac a b = false by simp [isFrac, he]]
    go_enter Try.func43, Try.ntmps43
    go_wp2_with fail
    refine (l01Entry_any _ _).mono ?_; rintro e w' ⟨rfl, rfl⟩
    go_wp2_with fail
    go_ret
    exact ⟨rfl, by go_grown⟩
  cases hq : inB b 0 1000000000
  · rw [show isFrac a b = false by simp [isFrac, he, hq]]
    go_enter Try.func43, Try.ntmps43
    go_wp2_with fail
    refine (l01Entry_any _ _).mono ?_; rintro e w' ⟨rfl, rfl⟩
    go_wp2_with fail
    refine (l01In_any _ _ _ _).mono ?_; rintro e w' ⟨rfl, rfl⟩
    go_wp2_with fail
    go_ret
    exact ⟨rfl, by go_grown⟩
  have he2 := entB_iff.1 he
  have hq2 : 0 ≤ b ∧ b ≤ 1000000000 := by simpa [inB] using hq
  have HD := Lib.hid (fun W => l01Gcd_any a b W (by omega) (by omega) (by omega) (by omega))
  by_cases hg : (Int.gcd a b : Int) = 1
  · rw [hg] at HD
    by_cases hb : 0 < b
    · rw [show isFrac a b = true by exact isFrac_iff.2 ⟨he2, hq2, hg, .inl hb⟩]
      clear hg he2 hq2
      go_enter Try.func43, Try.ntmps43
      go_wp2_with fail
      refine (l01Entry_any _ _).mono ?_; rintro e w' ⟨rfl, rfl⟩
      go_wp2_with fail
      refine (l01In_any _ _ _ _).mono ?_; rintro e w' ⟨rfl, rfl⟩
      go_wp2_with fail
      refine (HD.out _).mono ?_; rintro e w1 ⟨rfl, hb1⟩
      obtain ⟨hc1, hf1⟩ := bcell hb1
      have hz0 : w.heap.size < w1.heap.size := by have := hb1.size; (try simp at this); omega
      have hB1 : Below w.heap.size w w1 := bfin (by go_grown) hb1
      go_wp2_with fail
      go_ret
      exact ⟨rfl, by go_grown⟩
    · obtain rfl : b = 0 := by omega
      by_cases ha : a = 1
      · subst ha
        rw [show isFrac 1 0 = true by exact isFrac_iff.2 ⟨he2, hq2, hg, .inr rfl⟩]
        clear hg he2 hq2
        go_enter Try.func43, Try.ntmps43
        go_wp2_with fail
        refine (l01Entry_any _ _).mono ?_; rintro e w' ⟨rfl, rfl⟩
        go_wp2_with fail
        refine (l01In_any _ _ _ _).mono ?_; rintro e w' ⟨rfl, rfl⟩
        go_wp2_with fail
        refine (HD.out _).mono ?_; rintro e w1 ⟨rfl, hb1⟩
        obtain ⟨hc1, hf1⟩ := bcell hb1
        have hz0 : w.heap.size < w1.heap.size := by have := hb1.size; (try simp at this); omega
        have hB1 : Below w.heap.size w w1 := bfin (by go_grown) hb1
        go_wp2_with fail
        go_ret
        exact ⟨rfl, by go_grown⟩
      · rw [show isFrac a 0 = false by exact Bool.eq_false_iff.2 fun h => by have := (isFrac_iff.1 h).2.2.2; omega]
        clear hg he2 hq2
        go_enter Try.func43, Try.ntmps43
        go_wp2_with fail
        refine (l01Entry_any _ _).mono ?_; rintro e w' ⟨rfl, rfl⟩
        go_wp2_with fail
        refine (l01In_any _ _ _ _).mono ?_; rintro e w' ⟨rfl, rfl⟩
        go_wp2_with fail
        refine (HD.out _).mono ?_; rintro e w1 ⟨rfl, hb1⟩
        obtain ⟨hc1, hf1⟩ := bcell hb1
        have hz0 : w.heap.size < w1.heap.size := by have := hb1.size; (try simp at this); omega
        have hB1 : Below w.heap.size w w1 := bfin (by go_grown) hb1
        go_wp2_with fail
        go_ret
        exact ⟨ret_bool (by simp [ha]), by go_grown⟩
  · rw [show isFrac a b = false by exact Bool.eq_false_iff.2 fun h => hg (isFrac_iff.1 h).2.2.1]
    generalize (Int.gcd a b : Int) = G at HD hg
    clear he2 hq2
    go_enter Try.func43, Try.ntmps43
    go_wp2_with fail
    refine (l01Entry_any _ _).mono ?_; rintro e w' ⟨rfl, rfl⟩
    go_wp2_with fail
    refine (l01In_any _ _ _ _).mono ?_; rintro e w' ⟨rfl, rfl⟩
    go_wp2_with fail
    refine (HD.out _).mono ?_; rintro e w1 ⟨rfl, hb1⟩
    obtain ⟨hc1, hf1⟩ := bcell hb1
    have hz0 : w.heap.size < w1.heap.size := by have := hb1.size; (try simp at this); omega
    have hB1 : Below w.heap.size w w1 := bfin (by go_grown) hb1
    go_wp2_with fail
    go_ret
    exact ⟨rfl, by go_grown⟩
end Go.Proofs.Ytencfmipplgnkaa
