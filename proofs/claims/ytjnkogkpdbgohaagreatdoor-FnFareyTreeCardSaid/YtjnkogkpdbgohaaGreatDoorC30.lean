/- Contracts: fractions. -/
import Derived.Test.YtjnkogkpdbgohaaGreatDoorCa
import Derived.Test.YtjnkogkpdbgohaaGreatDoorNa
namespace Go.Proofs.YtjnkogkpdbgohaaGreatDoor
open Go.RowKit
theorem allB2 (a b : Int) : (allB 2 fun i => entB (if i = 0 then a else b)) = (entB a && entB b) := by
  simp [allB, List.range_succ]
theorem IsFraction_any (a b : Int) (w : World) :
    Calls Tryz.prog 42 #[(.agg #[.int .i64 a, .int .i64 b])] w fun e w' => e = .returned (.bool (isFrac a b)) ∧ Below w.heap.size w w' := by
  cases he : (entB a && entB b)
  · have HE := Lib.hid he
    have HR : isFrac a b = false := by
      cases h : isFrac a b
      · rfl
      · have := isFrac_iff.1 h
        have h2 : (entB a && entB b) = true := by rw [Bool.and_eq_true, entB_iff, entB_iff]; omega
        rw [he] at h2; exact h2.symm
    rw [HR]
    clear HR he
    go_enter Tryz.func42, Tryz.ntmps42
    go_wp2_with (go_at_call 68; refine (areEntries_any _ _ _ 2 (fun i => if i = 0 then a else b) _ (by omega) (by intro i hi; rcases (show i = 0 ∨ i = 1 by omega) with rfl | rfl <;> simp)).mono ?_; rw [allB2, HE.out]; rintro e w' ⟨rfl, rfl⟩)
    go_ret
    exact ⟨rfl, by go_grown⟩
  · have HE := Lib.hid he
    simp only [Bool.and_eq_true, entB_iff] at he
    obtain ⟨⟨a0, a1⟩, ⟨b0, b1⟩⟩ := he
    have HI := Lib.hid (@isFrac_iff a b)
    by_cases h0 : 0 ≤ b
    · have HD := Lib.hid (fun W => divisor_any a b W (by omega) (by omega) (by omega) (by omega))
      by_cases hg : (Int.gcd a b : Int) = 1
      · rw [hg] at HD
        by_cases hb : 0 < b
        · skip
          rw [show isFrac a b = true by exact isFrac_iff.2 ⟨⟨a0, a1⟩, ⟨h0, b1⟩, hg, .inl hb⟩]
          clear hg
          go_enter Tryz.func42, Tryz.ntmps42
          go_wp2_with (go_at_call 68; refine (areEntries_any _ _ _ 2 (fun i => if i = 0 then a else b) _ (by omega) (by intro i hi; rcases (show i = 0 ∨ i = 1 by omega) with rfl | rfl <;> simp)).mono ?_; rw [allB2, HE.out]; rintro e w' ⟨rfl, rfl⟩)
          refine (HD.out _).mono ?_; rintro e w1 ⟨rfl, hb1⟩
          obtain ⟨hc1, hf1⟩ := bcell hb1
          have hz0 : w.heap.size < w1.heap.size := by have := hb1.size; (try simp at this); omega
          have hB1 : Below w.heap.size w w1 := bfin (by go_grown) hb1
          go_wp2_with fail
          go_ret
          exact ⟨rfl, by go_grown⟩
        · obtain rfl : b = 0 := by omega
          by_cases ha : a = 1
          · subst ha
            rw [show isFrac 1 0 = true by exact isFrac_iff.2 ⟨⟨a0, a1⟩, ⟨h0, b1⟩, hg, .inr rfl⟩]
            clear hg
            go_enter Tryz.func42, Tryz.ntmps42
            go_wp2_with (go_at_call 68; refine (areEntries_any _ _ _ 2 (fun i => if i = 0 then 1 else 0) _ (by omega) (by intro i hi; rcases (show i = 0 ∨ i = 1 by omega) with rfl | rfl <;> simp)).mono ?_; rw [allB2, HE.out]; rintro e w' ⟨rfl, rfl⟩)
            refine (HD.out _).mono ?_; rintro e w1 ⟨rfl, hb1⟩
            obtain ⟨hc1, hf1⟩ := bcell hb1
            have hz0 : w.heap.size < w1.heap.size := by have := hb1.size; (try simp at this); omega
            have hB1 : Below w.heap.size w w1 := bfin (by go_grown) hb1
            go_wp2_with fail
            go_ret
            exact ⟨rfl, by go_grown⟩
          · skip
            rw [show isFrac a 0 = false by exact Bool.eq_false_iff.2 fun h => by have := (isFrac_iff.1 h).2.2.2; omega]
            clear hg
            go_enter Tryz.func42, Tryz.ntmps42
            go_wp2_with (go_at_call 68; refine (areEntries_any _ _ _ 2 (fun i => if i = 0 then a else 0) _ (by omega) (by intro i hi; rcases (show i = 0 ∨ i = 1 by omega) with rfl | rfl <;> simp)).mono ?_; rw [allB2, HE.out]; rintro e w' ⟨rfl, rfl⟩)
            refine (HD.out _).mono ?_; rintro e w1 ⟨rfl, hb1⟩
            obtain ⟨hc1, hf1⟩ := bcell hb1
            have hz0 : w.heap.size < w1.heap.size := by have := hb1.size; (try simp at this); omega
            have hB1 : Below w.heap.size w w1 := bfin (by go_grown) hb1
            go_wp2_with fail
            go_ret
            exact ⟨ret_bool (by simp [ha]), by go_grown⟩
      · skip
        rw [show isFrac a b = false by exact Bool.eq_false_iff.2 fun h => hg (isFrac_iff.1 h).2.2.1]
        generalize (Int.gcd a b : Int) = G at HD hg
        go_enter Tryz.func42, Tryz.ntmps42
        go_wp2_with (go_at_call 68; refine (areEntries_any _ _ _ 2 (fun i => if i = 0 then a else b) _ (by omega) (by intro i hi; rcases (show i = 0 ∨ i = 1 by omega) with rfl | rfl <;> simp)).mono ?_; rw [allB2, HE.out]; rintro e w' ⟨rfl, rfl⟩)
        refine (HD.out _).mono ?_; rintro e w1 ⟨rfl, hb1⟩
        obtain ⟨hc1, hf1⟩ := bcell hb1
        have hz0 : w.heap.size < w1.heap.size := by have := hb1.size; (try simp at this); omega
        have hB1 : Below w.heap.size w w1 := bfin (by go_grown) hb1
        go_wp2_with fail
        go_ret
        exact ⟨rfl, by go_grown⟩
    · rw [show isFrac a b = false by cases h : isFrac a b with | false => rfl | true => exact absurd (isFrac_iff.1 h).2.1.1 h0]
      go_enter Tryz.func42, Tryz.ntmps42
      go_wp2_with (go_at_call 68; refine (areEntries_any _ _ _ 2 (fun i => if i = 0 then a else b) _ (by omega) (by intro i hi; rcases (show i = 0 ∨ i = 1 by omega) with rfl | rfl <;> simp)).mono ?_; rw [allB2, HE.out]; rintro e w' ⟨rfl, rfl⟩)
      go_ret
      exact ⟨rfl, by go_grown⟩
theorem l01Fraction_any (a b : Int) (w : World) :
    Calls Tryz.prog 66 #[(.agg #[.int .i64 a, .int .i64 b])] w fun e w' => e = .returned (.bool (isFrac a b)) ∧ Below w.heap.size w w' := by
  cases he : entB a
  · rw [show isFrac a b = false by simp [isFrac, he]]
    go_enter Tryz.func66, Tryz.ntmps66
    go_wp2_with fail
    refine (l01Entry_any _ _).mono ?_; rintro e w' ⟨rfl, rfl⟩
    go_wp2_with fail
    go_ret
    exact ⟨rfl, by go_grown⟩
  cases hq : inB b 0 1000000000
  · rw [show isFrac a b = false by simp [isFrac, he, hq]]
    go_enter Tryz.func66, Tryz.ntmps66
    go_wp2_with fail
    refine (l01Entry_any _ _).mono ?_; rintro e w' ⟨rfl, rfl⟩
    go_wp2_with fail
    refine (l01In_any _ _ _ _).mono ?_; rintro e w' ⟨rfl, rfl⟩
    go_wp2_with fail
    go_ret
    exact ⟨rfl, by go_grown⟩
  have he2 := entB_iff.1 he
  have hq2 : 0 ≤ b ∧ b ≤ 1000000000 := by simpa [inB] using hq
  have HD := Lib.hid (fun W => l01Gcd_any a b W (by omega) (by omega) (by omega) (by omega))
  by_cases hg : (Int.gcd a b : Int) = 1
  · rw [hg] at HD
    by_cases hb : 0 < b
    · rw [show isFrac a b = true by exact isFrac_iff.2 ⟨he2, hq2, hg, .inl hb⟩]
      clear hg he2 hq2
      go_enter Tryz.func66, Tryz.ntmps66
      go_wp2_with fail
      refine (l01Entry_any _ _).mono ?_; rintro e w' ⟨rfl, rfl⟩
      go_wp2_with fail
      refine (l01In_any _ _ _ _).mono ?_; rintro e w' ⟨rfl, rfl⟩
      go_wp2_with fail
      refine (HD.out _).mono ?_; rintro e w1 ⟨rfl, hb1⟩
      obtain ⟨hc1, hf1⟩ := bcell hb1
      have hz0 : w.heap.size < w1.heap.size := by have := hb1.size; (try simp at this); omega
      have hB1 : Below w.heap.size w w1 := bfin (by go_grown) hb1
      go_wp2_with fail
      go_ret
      exact ⟨rfl, by go_grown⟩
    · obtain rfl : b = 0 := by omega
      by_cases ha : a = 1
      · subst ha
        rw [show isFrac 1 0 = true by exact isFrac_iff.2 ⟨he2, hq2, hg, .inr rfl⟩]
        clear hg he2 hq2
        go_enter Tryz.func66, Tryz.ntmps66
        go_wp2_with fail
        refine (l01Entry_any _ _).mono ?_; rintro e w' ⟨rfl, rfl⟩
        go_wp2_with fail
        refine (l01In_any _ _ _ _).mono ?_; rintro e w' ⟨rfl, rfl⟩
        go_wp2_with fail
        refine (HD.out _).mono ?_; rintro e w1 ⟨rfl, hb1⟩
        obtain ⟨hc1, hf1⟩ := bcell hb1
        have hz0 : w.heap.size < w1.heap.size := by have := hb1.size; (try simp at this); omega
        have hB1 : Below w.heap.size w w1 := bfin (by go_grown) hb1
        go_wp2_with fail
        go_ret
        exact ⟨rfl, by go_grown⟩
      · rw [show isFrac a 0 = false by exact Bool.eq_false_iff.2 fun h => by have := (isFrac_iff.1 h).2.2.2; omega]
        clear hg he2 hq2
        go_enter Tryz.func66, Tryz.ntmps66
        go_wp2_with fail
        refine (l01Entry_any _ _).mono ?_; rintro e w' ⟨rfl, rfl⟩
        go_wp2_with fail
        refine (l01In_any _ _ _ _).mono ?_; rintro e w' ⟨rfl, rfl⟩
        go_wp2_with fail
        refine (HD.out _).mono ?_; rintro e w1 ⟨rfl, hb1⟩
        obtain ⟨hc1, hf1⟩ := bcell hb1
        have hz0 : w.heap.size < w1.heap.size := by have := hb1.size; (try simp at this); omega
        have hB1 : Below w.heap.size w w1 := bfin (by go_grown) hb1
        go_wp2_with fail
        go_ret
        exact ⟨ret_bool (by simp [ha]), by go_grown⟩
  · rw [show isFrac a b = false by exact Bool.eq_false_iff.2 fun h => hg (isFrac_iff.1 h).2.2.1]
    generalize (Int.gcd a b : Int) = G at HD hg
    clear he2 hq2
    go_enter Tryz.func66, Tryz.ntmps66
    go_wp2_with fail
    refine (l01Entry_any _ _).mono ?_; rintro e w' ⟨rfl, rfl⟩
    go_wp2_with fail
    refine (l01In_any _ _ _ _).mono ?_; rintro e w' ⟨rfl, rfl⟩
    go_wp2_with fail
    refine (HD.out _).mono ?_; rintro e w1 ⟨rfl, hb1⟩
    obtain ⟨hc1, hf1⟩ := bcell hb1
    have hz0 : w.heap.size < w1.heap.size := by have := hb1.size; (try simp at this); omega
    have hB1 : Below w.heap.size w w1 := bfin (by go_grown) hb1
    go_wp2_with fail
    go_ret
    exact ⟨rfl, by go_grown⟩
theorem l01Reduced_any (p q : Int) (w : World) (q0 : 0 < q) (q1 : q ≤ 4000000000000000000) (p0 : -4000000000000000000 ≤ p) (p1 : p ≤ 4000000000000000000) :
    Calls Tryz.prog 64 #[(.int .i64 p), (.int .i64 q)] w fun e w' => e = .returned (.agg #[.int .i64 (fx p q), .int .i64 (fy p q)]) ∧ Below w.heap.size w w' := by
  obtain ⟨g0, x0, x1, y0, y1⟩ := fracBd q0 p0 p1 q1
  have HD := Lib.hid (fun W => l01Gcd_any p q W (by omega) (by omega) (by omega) (by omega))
  unfold fx fy at *
  generalize (Int.gcd p q : Int) = G at *
  have gn : G ≠ 0 := by omega
  go_enter Tryz.func64, Tryz.ntmps64
  go_wp2_with fail
  refine (HD.out _).mono ?_; rintro e w1 ⟨rfl, hb1⟩
  obtain ⟨hc1, hf1⟩ := bcell hb1
  have hz0 : w.heap.size < w1.heap.size := by have := hb1.size; (try simp at this); omega
  go_wp2_with fail
  refine wp_region_ext_tail 7 (by kernel_rfl) (by kernel_rfl) ?_
  simp only [List.take_succ_cons, List.take_zero, List.drop_succ_cons, List.drop_zero]
  repeat (go_big_quiet_step (fail))
  refine wpQuiet_nil ?_
  intro w2 hb2
  replace hb2 := bstep hb1 hb2
  clear hc1 hf1 hb1
  obtain ⟨hc2, hf2⟩ := bcell hb2
  have hz0 : w.heap.size < w2.heap.size := by have := hb2.size; (try simp at this); omega
  have hB2 : Below w.heap.size w w2 := bfin (by go_grown) hb2
  go_wp2_with fail
  have hall := And.intro hc2 (hz0)
  refine bodyPost_ret (v := (.agg #[.int .i64 (p.tdiv G), .int .i64 (q.tdiv G)])) (by first | (simp [results, Tryz.results64, go_sem]; done) | (simp [results, Tryz.results64, go_sem, hall] <;> rfl)) rfl ⟨rfl, by go_grown⟩
end Go.Proofs.YtjnkogkpdbgohaaGreatDoor
