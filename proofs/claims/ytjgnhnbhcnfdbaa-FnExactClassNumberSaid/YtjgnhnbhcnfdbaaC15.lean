/- Contracts: reduced forms. -/
import Derived.Test.YtjgnhnbhcnfdbaaC14
namespace Go.Proofs.Ytjgnhnbhcnfdbaa
open Go.RowKit
theorem redB_def {a b c : Int} (h : defB a b c = true) : redB a b c = redDef a b c := by
  simp [defB] at h; unfold redB; rw [if_pos h]
theorem redB_ind {a b c : Int} (h : defB a b c = false) : redB a b c = redInd a b c := by
  unfold redB; rw [if_neg]; intro hh; simp [defB] at h; omega
structure RedBd (a b : Int) : Prop where
  b0 : 0 ≤ b * b
  b1 : b * b ≤ 1000000000000
  p0 : 0 ≤ (2 * (a.natAbs : Int) + b) * (2 * (a.natAbs : Int) + b)
  p1 : (2 * (a.natAbs : Int) + b) * (2 * (a.natAbs : Int) + b) ≤ 9000000000000
  q0 : 0 ≤ (2 * (a.natAbs : Int) - b) * (2 * (a.natAbs : Int) - b)
  q1 : (2 * (a.natAbs : Int) - b) * (2 * (a.natAbs : Int) - b) ≤ 9000000000000
theorem redBd {a b c : Int} (h : Small a b c) : RedBd a b := by
  obtain ⟨a0, a1, b0, b1, _, _⟩ := h
  have h1 := mul_bd b0 b1 b0 b1
  have h2 := mul_bd (a := 2 * (a.natAbs : Int) + b) (b := 2 * (a.natAbs : Int) + b) (A := 3000000) (B := 3000000) (by omega) (by omega) (by omega) (by omega)
  have h3 := mul_bd (a := 2 * (a.natAbs : Int) - b) (b := 2 * (a.natAbs : Int) - b) (A := 3000000) (B := 3000000) (by omega) (by omega) (by omega) (by omega)
  exact ⟨sq_nn _, by omega, sq_nn _, by omega, sq_nn _, by omega⟩

set_option maxRecDepth 100000 in
set_option maxHeartbeats 4000000 in
theorem isReduced_any (a b c : Int) (w : World) (h : Small a b c) :
    Calls Try.prog 56 #[(.agg #[.int .i64 a, .int .i64 b, .int .i64 c])] w fun e w' => e = .returned (.bool (redB a b c)) ∧ Below w.heap.size w w' := by
  obtain ⟨e1, e2, e3, e4, e5, e6⟩ := redBd h
  have ⟨a0, a1, b0, b1, c0, c1⟩ := h
  cases hd : defB a b c
  · rw [redB_ind hd]
    have HD := Lib.hid (fun W => disc_any a b c W h)
    obtain ⟨d0, d1⟩ := disc_bd h
    rw [show (b * b - 4 * a * c : Int) = disc a b c from rfl] at HD
    have hr : redInd a b c = decide (0 < b ∧ b * b < disc a b c ∧ disc a b c < (2 * (a.natAbs : Int) + b) * (2 * (a.natAbs : Int) + b) ∧ (2 * (a.natAbs : Int) < b ∨ (2 * (a.natAbs : Int) - b) * (2 * (a.natAbs : Int) - b) < disc a b c)) := rfl
    generalize disc a b c = D at *
    have HR := Lib.hid hr
    clear hr
    by_cases hc0 : 0 < b
    · skip
      by_cases hc1 : b * b < D
      · skip
        by_cases hc2 : D < (2 * (a.natAbs : Int) + b) * (2 * (a.natAbs : Int) + b)
        · skip
          by_cases hc3 : 2 * (a.natAbs : Int) < b
          · skip
            go_enter Try.func56, Try.ntmps56
            go_wp2_with fail
            refine wp_region_ext (by kernel_rfl) (by kernel_rfl) ?_
            repeat (go_big_quiet_step (fail))
            refine wpQuiet_nil ?_
            intro w1 hb1
            obtain ⟨hc1, hf1⟩ := bcell hb1
            have hz0 : w.heap.size < w1.heap.size := by have := hb1.size; (try simp at this); omega
            go_wp2_with fail
            refine (isDefinite_any _ _ _ _ h).mono ?_; rintro e w2 ⟨rfl, hb2⟩
            replace hb2 := bstep hb1 hb2
            clear hc1 hf1 hb1
            obtain ⟨hc2, hf2⟩ := bcell hb2
            have hz0 : w.heap.size < w2.heap.size := by have := hb2.size; (try simp at this); omega
            go_wp2_with fail
            refine (HD.out _).mono ?_; rintro e w3 ⟨rfl, hb3⟩
            replace hb3 := bstep hb2 hb3
            clear hc2 hf2 hb2
            obtain ⟨hc3, hf3⟩ := bcell hb3
            go_wp2_with fail
            refine (size_any _ _ (by omega) (by omega)).mono ?_; rintro e w' ⟨rfl, rfl⟩
            have hB3 : Below w.heap.size w w3 := bfin (by go_grown) hb3
            go_wp2_with fail
            go_ret
            exact ⟨ret_bool (by rw [HR.out]; first | (exact (decide_eq_true (by omega)).symm) | (exact (decide_eq_false (by omega)).symm) | (rw [Bool.eq_iff_iff]; simp; omega)), by go_grown⟩
          · skip
            by_cases hc4 : (2 * (a.natAbs : Int) - b) * (2 * (a.natAbs : Int) - b) < D
            · skip
              go_enter Try.func56, Try.ntmps56
              go_wp2_with fail
              refine wp_region_ext (by kernel_rfl) (by kernel_rfl) ?_
              repeat (go_big_quiet_step (fail))
              refine wpQuiet_nil ?_
              intro w1 hb1
              obtain ⟨hc1, hf1⟩ := bcell hb1
              have hz0 : w.heap.size < w1.heap.size := by have := hb1.size; (try simp at this); omega
              go_wp2_with fail
              refine (isDefinite_any _ _ _ _ h).mono ?_; rintro e w2 ⟨rfl, hb2⟩
              replace hb2 := bstep hb1 hb2
              clear hc1 hf1 hb1
              obtain ⟨hc2, hf2⟩ := bcell hb2
              have hz0 : w.heap.size < w2.heap.size := by have := hb2.size; (try simp at this); omega
              go_wp2_with fail
              refine (HD.out _).mono ?_; rintro e w3 ⟨rfl, hb3⟩
              replace hb3 := bstep hb2 hb3
              clear hc2 hf2 hb2
              obtain ⟨hc3, hf3⟩ := bcell hb3
              go_wp2_with fail
              refine (size_any _ _ (by omega) (by omega)).mono ?_; rintro e w' ⟨rfl, rfl⟩
              have hB3 : Below w.heap.size w w3 := bfin (by go_grown) hb3
              go_wp2_with fail
              go_ret
              exact ⟨ret_bool (by rw [HR.out]; first | (exact (decide_eq_true (by omega)).symm) | (exact (decide_eq_false (by omega)).symm) | (rw [Bool.eq_iff_iff]; simp; omega)), by go_grown⟩
            · skip
              go_enter Try.func56, Try.ntmps56
              go_wp2_with fail
              refine wp_region_ext (by kernel_rfl) (by kernel_rfl) ?_
              repeat (go_big_quiet_step (fail))
              refine wpQuiet_nil ?_
              intro w1 hb1
              obtain ⟨hc1, hf1⟩ := bcell hb1
              have hz0 : w.heap.size < w1.heap.size := by have := hb1.size; (try simp at this); omega
              go_wp2_with fail
              refine (isDefinite_any _ _ _ _ h).mono ?_; rintro e w2 ⟨rfl, hb2⟩
              replace hb2 := bstep hb1 hb2
              clear hc1 hf1 hb1
              obtain ⟨hc2, hf2⟩ := bcell hb2
              have hz0 : w.heap.size < w2.heap.size := by have := hb2.size; (try simp at this); omega
              go_wp2_with fail
              refine (HD.out _).mono ?_; rintro e w3 ⟨rfl, hb3⟩
              replace hb3 := bstep hb2 hb3
              clear hc2 hf2 hb2
              obtain ⟨hc3, hf3⟩ := bcell hb3
              go_wp2_with fail
              refine (size_any _ _ (by omega) (by omega)).mono ?_; rintro e w' ⟨rfl, rfl⟩
              have hB3 : Below w.heap.size w w3 := bfin (by go_grown) hb3
              go_wp2_with fail
              go_ret
              exact ⟨ret_bool (by rw [HR.out]; first | (exact (decide_eq_true (by omega)).symm) | (exact (decide_eq_false (by omega)).symm) | (rw [Bool.eq_iff_iff]; simp; omega)), by go_grown⟩
        · skip
          go_enter Try.func56, Try.ntmps56
          go_wp2_with fail
          refine wp_region_ext (by kernel_rfl) (by kernel_rfl) ?_
          repeat (go_big_quiet_step (fail))
          refine wpQuiet_nil ?_
          intro w1 hb1
          obtain ⟨hc1, hf1⟩ := bcell hb1
          have hz0 : w.heap.size < w1.heap.size := by have := hb1.size; (try simp at this); omega
          go_wp2_with fail
          refine (isDefinite_any _ _ _ _ h).mono ?_; rintro e w2 ⟨rfl, hb2⟩
          replace hb2 := bstep hb1 hb2
          clear hc1 hf1 hb1
          obtain ⟨hc2, hf2⟩ := bcell hb2
          have hz0 : w.heap.size < w2.heap.size := by have := hb2.size; (try simp at this); omega
          go_wp2_with fail
          refine (HD.out _).mono ?_; rintro e w3 ⟨rfl, hb3⟩
          replace hb3 := bstep hb2 hb3
          clear hc2 hf2 hb2
          obtain ⟨hc3, hf3⟩ := bcell hb3
          go_wp2_with fail
          refine (size_any _ _ (by omega) (by omega)).mono ?_; rintro e w' ⟨rfl, rfl⟩
          have hB3 : Below w.heap.size w w3 := bfin (by go_grown) hb3
          go_wp2_with fail
          go_ret
          exact ⟨ret_bool (by rw [HR.out]; first | (exact (decide_eq_true (by omega)).symm) | (exact (decide_eq_false (by omega)).symm) | (rw [Bool.eq_iff_iff]; simp; omega)), by go_grown⟩
      · skip
        go_enter Try.func56, Try.ntmps56
        go_wp2_with fail
        refine wp_region_ext (by kernel_rfl) (by kernel_rfl) ?_
        repeat (go_big_quiet_step (fail))
        refine wpQuiet_nil ?_
        intro w1 hb1
        obtain ⟨hc1, hf1⟩ := bcell hb1
        have hz0 : w.heap.size < w1.heap.size := by have := hb1.size; (try simp at this); omega
        go_wp2_with fail
        refine (isDefinite_any _ _ _ _ h).mono ?_; rintro e w2 ⟨rfl, hb2⟩
        replace hb2 := bstep hb1 hb2
        clear hc1 hf1 hb1
        obtain ⟨hc2, hf2⟩ := bcell hb2
        have hz0 : w.heap.size < w2.heap.size := by have := hb2.size; (try simp at this); omega
        go_wp2_with fail
        refine (HD.out _).mono ?_; rintro e w3 ⟨rfl, hb3⟩
        replace hb3 := bstep hb2 hb3
        clear hc2 hf2 hb2
        obtain ⟨hc3, hf3⟩ := bcell hb3
        go_wp2_with fail
        refine (size_any _ _ (by omega) (by omega)).mono ?_; rintro e w' ⟨rfl, rfl⟩
        have hB3 : Below w.heap.size w w3 := bfin (by go_grown) hb3
        go_wp2_with fail
        go_ret
        exact ⟨ret_bool (by rw [HR.out]; first | (exact (decide_eq_true (by omega)).symm) | (exact (decide_eq_false (by omega)).symm) | (rw [Bool.eq_iff_iff]; simp; omega)), by go_grown⟩
    · skip
      go_enter Try.func56, Try.ntmps56
      go_wp2_with fail
      refine wp_region_ext (by kernel_rfl) (by kernel_rfl) ?_
      repeat (go_big_quiet_step (fail))
      refine wpQuiet_nil ?_
      intro w1 hb1
      obtain ⟨hc1, hf1⟩ := bcell hb1
      have hz0 : w.heap.size < w1.heap.size := by have := hb1.size; (try simp at this); omega
      go_wp2_with fail
      refine (isDefinite_any _ _ _ _ h).mono ?_; rintro e w2 ⟨rfl, hb2⟩
      replace hb2 := bstep hb1 hb2
      clear hc1 hf1 hb1
      obtain ⟨hc2, hf2⟩ := bcell hb2
      have hz0 : w.heap.size < w2.heap.size := by have := hb2.size; (try simp at this); omega
      go_wp2_with fail
      refine (HD.out _).mono ?_; rintro e w3 ⟨rfl, hb3⟩
      replace hb3 := bstep hb2 hb3
      clear hc2 hf2 hb2
      obtain ⟨hc3, hf3⟩ := bcell hb3
      go_wp2_with fail
      refine (size_any _ _ (by omega) (by omega)).mono ?_; rintro e w' ⟨rfl, rfl⟩
      have hB3 : Below w.heap.size w w3 := bfin (by go_grown) hb3
      go_wp2_with fail
      go_ret
      exact ⟨ret_bool (by rw [HR.out]; first | (exact (decide_eq_true (by omega)).symm) | (exact (decide_eq_false (by omega)).symm) | (rw [Bool.eq_iff_iff]; simp; omega)), by go_grown⟩
  · rw [redB_def hd]
    by_cases hc5 : (b.natAbs : Int) ≤ a
    · skip
      by_cases hc6 : a ≤ c
      · skip
        by_cases hc7 : 0 ≤ b
        · skip
          go_enter Try.func56, Try.ntmps56
          go_wp2_with fail
          refine wp_region_ext (by kernel_rfl) (by kernel_rfl) ?_
          repeat (go_big_quiet_step (fail))
          refine wpQuiet_nil ?_
          intro w1 hb1
          obtain ⟨hc1, hf1⟩ := bcell hb1
          have hz0 : w.heap.size < w1.heap.size := by have := hb1.size; (try simp at this); omega
          go_wp2_with fail
          refine (isDefinite_any _ _ _ _ h).mono ?_; rintro e w2 ⟨rfl, hb2⟩
          replace hb2 := bstep hb1 hb2
          clear hc1 hf1 hb1
          obtain ⟨hc2, hf2⟩ := bcell hb2
          have hz0 : w.heap.size < w2.heap.size := by have := hb2.size; (try simp at this); omega
          go_wp2_with fail
          refine (size_any _ _ (by omega) (by omega)).mono ?_; rintro e w' ⟨rfl, rfl⟩
          have hB2 : Below w.heap.size w w2 := bfin (by go_grown) hb2
          go_wp2_with fail
          go_ret
          exact ⟨ret_bool (by unfold redDef; (try have qa := HQA.out); (try have qb := HQB.out); first | (exact (decide_eq_true (by omega)).symm) | (exact (decide_eq_false (by omega)).symm) | (rw [Bool.eq_iff_iff]; simp; omega)), by go_grown⟩
        · skip
          by_cases hc8 : -b = a
          · skip
            have hc8b : (-b != a) = false := by simp; omega
            have HQA := Lib.hid hc8
            clear hc8
            go_enter Try.func56, Try.ntmps56
            go_wp2_with fail
            refine wp_region_ext (by kernel_rfl) (by kernel_rfl) ?_
            repeat (go_big_quiet_step (fail))
            refine wpQuiet_nil ?_
            intro w1 hb1
            obtain ⟨hc1, hf1⟩ := bcell hb1
            have hz0 : w.heap.size < w1.heap.size := by have := hb1.size; (try simp at this); omega
            go_wp2_with fail
            refine (isDefinite_any _ _ _ _ h).mono ?_; rintro e w2 ⟨rfl, hb2⟩
            replace hb2 := bstep hb1 hb2
            clear hc1 hf1 hb1
            obtain ⟨hc2, hf2⟩ := bcell hb2
            have hz0 : w.heap.size < w2.heap.size := by have := hb2.size; (try simp at this); omega
            go_wp2_with fail
            refine (size_any _ _ (by omega) (by omega)).mono ?_; rintro e w' ⟨rfl, rfl⟩
            have hB2 : Below w.heap.size w w2 := bfin (by go_grown) hb2
            go_wp2_with fail
            go_ret
            exact ⟨ret_bool (by unfold redDef; (try have qa := HQA.out); (try have qb := HQB.out); first | (exact (decide_eq_true (by omega)).symm) | (exact (decide_eq_false (by omega)).symm) | (rw [Bool.eq_iff_iff]; simp; omega)), by go_grown⟩
          · skip
            have hc8b : (-b != a) = true := by simp; omega
            have HQA := Lib.hid hc8
            clear hc8
            by_cases hc9 : a = c
            · skip
              have hc9b : (a != c) = false := by simp; omega
              have HQB := Lib.hid hc9
              clear hc9
              go_enter Try.func56, Try.ntmps56
              go_wp2_with fail
              refine wp_region_ext (by kernel_rfl) (by kernel_rfl) ?_
              repeat (go_big_quiet_step (fail))
              refine wpQuiet_nil ?_
              intro w1 hb1
              obtain ⟨hc1, hf1⟩ := bcell hb1
              have hz0 : w.heap.size < w1.heap.size := by have := hb1.size; (try simp at this); omega
              go_wp2_with fail
              refine (isDefinite_any _ _ _ _ h).mono ?_; rintro e w2 ⟨rfl, hb2⟩
              replace hb2 := bstep hb1 hb2
              clear hc1 hf1 hb1
              obtain ⟨hc2, hf2⟩ := bcell hb2
              have hz0 : w.heap.size < w2.heap.size := by have := hb2.size; (try simp at this); omega
              go_wp2_with fail
              refine (size_any _ _ (by omega) (by omega)).mono ?_; rintro e w' ⟨rfl, rfl⟩
              have hB2 : Below w.heap.size w w2 := bfin (by go_grown) hb2
              go_wp2_with fail
              go_ret
              exact ⟨ret_bool (by unfold redDef; (try have qa := HQA.out); (try have qb := HQB.out); first | (exact (decide_eq_true (by omega)).symm) | (exact (decide_eq_false (by omega)).symm) | (rw [Bool.eq_iff_iff]; simp; omega)), by go_grown⟩
            · skip
              have hc9b : (a != c) = true := by simp; omega
              have HQB := Lib.hid hc9
              clear hc9
              go_enter Try.func56, Try.ntmps56
              go_wp2_with fail
              refine wp_region_ext (by kernel_rfl) (by kernel_rfl) ?_
              repeat (go_big_quiet_step (fail))
              refine wpQuiet_nil ?_
              intro w1 hb1
              obtain ⟨hc1, hf1⟩ := bcell hb1
              have hz0 : w.heap.size < w1.heap.size := by have := hb1.size; (try simp at this); omega
              go_wp2_with fail
              refine (isDefinite_any _ _ _ _ h).mono ?_; rintro e w2 ⟨rfl, hb2⟩
              replace hb2 := bstep hb1 hb2
              clear hc1 hf1 hb1
              obtain ⟨hc2, hf2⟩ := bcell hb2
              have hz0 : w.heap.size < w2.heap.size := by have := hb2.size; (try simp at this); omega
              go_wp2_with fail
              refine (size_any _ _ (by omega) (by omega)).mono ?_; rintro e w' ⟨rfl, rfl⟩
              have hB2 : Below w.heap.size w w2 := bfin (by go_grown) hb2
              go_wp2_with fail
              go_ret
              exact ⟨ret_bool (by unfold redDef; (try have qa := HQA.out); (try have qb := HQB.out); first | (exact (decide_eq_true (by omega)).symm) | (exact (decide_eq_false (by omega)).symm) | (rw [Bool.eq_iff_iff]; simp; omega)), by go_grown⟩
      · skip
        go_enter Try.func56, Try.ntmps56
        go_wp2_with fail
        refine wp_region_ext (by kernel_rfl) (by kernel_rfl) ?_
        repeat (go_big_quiet_step (fail))
        refine wpQuiet_nil ?_
        intro w1 hb1
        obtain ⟨hc1, hf1⟩ := bcell hb1
        have hz0 : w.heap.size < w1.heap.size := by have := hb1.size; (try simp at this); omega
        go_wp2_with fail
        refine (isDefinite_any _ _ _ _ h).mono ?_; rintro e w2 ⟨rfl, hb2⟩
        replace hb2 := bstep hb1 hb2
        clear hc1 hf1 hb1
        obtain ⟨hc2, hf2⟩ := bcell hb2
        have hz0 : w.heap.size < w2.heap.size := by have := hb2.size; (try simp at this); omega
        go_wp2_with fail
        refine (size_any _ _ (by omega) (by omega)).mono ?_; rintro e w' ⟨rfl, rfl⟩
        have hB2 : Below w.heap.size w w2 := bfin (by go_grown) hb2
        go_wp2_with fail
        go_ret
        exact ⟨ret_bool (by unfold redDef; (try have qa := HQA.out); (try have qb := HQB.out); first | (exact (decide_eq_true (by omega)).symm) | (exact (decide_eq_false (by omega)).symm) | (rw [Bool.eq_iff_iff]; simp; omega)), by go_grown⟩
    · skip
      go_enter Try.func56, Try.ntmps56
      go_wp2_with fail
      refine wp_region_ext (by kernel_rfl) (by kernel_rfl) ?_
      repeat (go_big_quiet_step (fail))
      refine wpQuiet_nil ?_
      intro w1 hb1
      obtain ⟨hc1, hf1⟩ := bcell hb1
      have hz0 : w.heap.size < w1.heap.size := by have := hb1.size; (try simp at this); omega
      go_wp2_with fail
      refine (isDefinite_any _ _ _ _ h).mono ?_; rintro e w2 ⟨rfl, hb2⟩
      replace hb2 := bstep hb1 hb2
      clear hc1 hf1 hb1
      obtain ⟨hc2, hf2⟩ := bcell hb2
      have hz0 : w.heap.size < w2.heap.size := by have := hb2.size; (try simp at this); omega
      go_wp2_with fail
      refine (size_any _ _ (by omega) (by omega)).mono ?_; rintro e w' ⟨rfl, rfl⟩
      have hB2 : Below w.heap.size w w2 := bfin (by go_grown) hb2
      go_wp2_with fail
      go_ret
      exact ⟨ret_bool (by unfold redDef; (try have qa := HQA.out); (try have qb := HQB.out); first | (exact (decide_eq_true (by omega)).symm) | (exact (decide_eq_false (by omega)).symm) | (rw [Bool.eq_iff_iff]; simp; omega)), by go_grown⟩

set_option maxRecDepth 100000 in
set_option maxHeartbeats 8000000 in
theorem l05Reduced_any (a b c : Int) (w : World) (h : Small a b c) :
    Calls Try.prog 95 #[(.agg #[.int .i64 a, .int .i64 b, .int .i64 c])] w fun e w' => e = .returned (.bool (redB a b c)) ∧ Below w.heap.size w w' := by
  obtain ⟨e1, e2, e3, e4, e5, e6⟩ := redBd h
  have ⟨a0, a1, b0, b1, c0, c1⟩ := h
  have HD := Lib.hid (fun W => l05Disc_any a b c W h)
  obtain ⟨d0, d1⟩ := disc_bd h
  have hdz : a = 0 → b = 0 → disc a b c = 0 := by intro h1 h2; subst h1; subst h2; simp [disc]
  rw [show (b * b - 4 * a * c : Int) = disc a b c from rfl] at HD
  have hr : redInd a b c = decide (0 < b ∧ b * b < disc a b c ∧ disc a b c < (2 * (a.natAbs : Int) + b) * (2 * (a.natAbs : Int) + b) ∧ (2 * (a.natAbs : Int) < b ∨ (2 * (a.natAbs : Int) - b) * (2 * (a.natAbs : Int) - b) < disc a b c)) := rfl
  have hdd : defB a b c = (decide (disc a b c < 0) && decide (0 < a)) := rfl
  by_cases hneg : disc a b c < 0
  · by_cases hpa : 0 < a
    · rw [redB_def (show defB a b c = true by rw [hdd]; simp; omega)]
      clear hdd hdz hr
      generalize disc a b c = D at *
      by_cases hc10 : 0 ≤ b
      · skip
        by_cases hc11 : b ≤ a
        · skip
          by_cases hc12 : a ≤ c
          · skip
            go_enter Try.func95, Try.ntmps95
            go_wp2_with fail
            refine wp_region_ext (by kernel_rfl) (by kernel_rfl) ?_
            repeat (go_big_quiet_step (((go_at_call 50; refine Calls.ext_of (Nat.le_refl _) (HD.out _)))))
            refine wpQuiet_nil ?_
            intro w1 hb1
            obtain ⟨hc1, hf1⟩ := bcell hb1
            have hB : Below w.heap.size w w1 := bfin (by go_grown) hb1
            go_wp2_with fail
            all_goals first | (exfalso; omega) | (go_ret; exact ⟨ret_bool (by unfold redDef; (try have qa := HQA.out); (try have qb := HQB.out); first | (exact (decide_eq_true (by omega)).symm) | (exact (decide_eq_false (by omega)).symm) | (rw [Bool.eq_iff_iff]; simp; omega)), hB⟩)
          · skip
            go_enter Try.func95, Try.ntmps95
            go_wp2_with fail
            refine wp_region_ext (by kernel_rfl) (by kernel_rfl) ?_
            repeat (go_big_quiet_step (((go_at_call 50; refine Calls.ext_of (Nat.le_refl _) (HD.out _)))))
            refine wpQuiet_nil ?_
            intro w1 hb1
            obtain ⟨hc1, hf1⟩ := bcell hb1
            have hB : Below w.heap.size w w1 := bfin (by go_grown) hb1
            go_wp2_with fail
            all_goals first | (exfalso; omega) | (go_ret; exact ⟨ret_bool (by unfold redDef; (try have qa := HQA.out); (try have qb := HQB.out); first | (exact (decide_eq_true (by omega)).symm) | (exact (decide_eq_false (by omega)).symm) | (rw [Bool.eq_iff_iff]; simp; omega)), hB⟩)
        · skip
          go_enter Try.func95, Try.ntmps95
          go_wp2_with fail
          refine wp_region_ext (by kernel_rfl) (by kernel_rfl) ?_
          repeat (go_big_quiet_step (((go_at_call 50; refine Calls.ext_of (Nat.le_refl _) (HD.out _)))))
          refine wpQuiet_nil ?_
          intro w1 hb1
          obtain ⟨hc1, hf1⟩ := bcell hb1
          have hB : Below w.heap.size w w1 := bfin (by go_grown) hb1
          go_wp2_with fail
          all_goals first | (exfalso; omega) | (go_ret; exact ⟨ret_bool (by unfold redDef; (try have qa := HQA.out); (try have qb := HQB.out); first | (exact (decide_eq_true (by omega)).symm) | (exact (decide_eq_false (by omega)).symm) | (rw [Bool.eq_iff_iff]; simp; omega)), hB⟩)
      · skip
        by_cases hc13 : -b ≤ a
        · skip
          by_cases hc14 : a ≤ c
          · skip
            by_cases hc15 : -b < a
            · skip
              by_cases hc16 : a < c
              · skip
                go_enter Try.func95, Try.ntmps95
                go_wp2_with fail
                refine wp_region_ext (by kernel_rfl) (by kernel_rfl) ?_
                repeat (go_big_quiet_step (((go_at_call 50; refine Calls.ext_of (Nat.le_refl _) (HD.out _)))))
                refine wpQuiet_nil ?_
                intro w1 hb1
                obtain ⟨hc1, hf1⟩ := bcell hb1
                have hB : Below w.heap.size w w1 := bfin (by go_grown) hb1
                go_wp2_with fail
                all_goals first | (exfalso; omega) | (go_ret; exact ⟨ret_bool (by unfold redDef; (try have qa := HQA.out); (try have qb := HQB.out); first | (exact (decide_eq_true (by omega)).symm) | (exact (decide_eq_false (by omega)).symm) | (rw [Bool.eq_iff_iff]; simp; omega)), hB⟩)
              · skip
                go_enter Try.func95, Try.ntmps95
                go_wp2_with fail
                refine wp_region_ext (by kernel_rfl) (by kernel_rfl) ?_
                repeat (go_big_quiet_step (((go_at_call 50; refine Calls.ext_of (Nat.le_refl _) (HD.out _)))))
                refine wpQuiet_nil ?_
                intro w1 hb1
                obtain ⟨hc1, hf1⟩ := bcell hb1
                have hB : Below w.heap.size w w1 := bfin (by go_grown) hb1
                go_wp2_with fail
                all_goals first | (exfalso; omega) | (go_ret; exact ⟨ret_bool (by unfold redDef; (try have qa := HQA.out); (try have qb := HQB.out); first | (exact (decide_eq_true (by omega)).symm) | (exact (decide_eq_false (by omega)).symm) | (rw [Bool.eq_iff_iff]; simp; omega)), hB⟩)
            · skip
              go_enter Try.func95, Try.ntmps95
              go_wp2_with fail
              refine wp_region_ext (by kernel_rfl) (by kernel_rfl) ?_
              repeat (go_big_quiet_step (((go_at_call 50; refine Calls.ext_of (Nat.le_refl _) (HD.out _)))))
              refine wpQuiet_nil ?_
              intro w1 hb1
              obtain ⟨hc1, hf1⟩ := bcell hb1
              have hB : Below w.heap.size w w1 := bfin (by go_grown) hb1
              go_wp2_with fail
              all_goals first | (exfalso; omega) | (go_ret; exact ⟨ret_bool (by unfold redDef; (try have qa := HQA.out); (try have qb := HQB.out); first | (exact (decide_eq_true (by omega)).symm) | (exact (decide_eq_false (by omega)).symm) | (rw [Bool.eq_iff_iff]; simp; omega)), hB⟩)
          · skip
            go_enter Try.func95, Try.ntmps95
            go_wp2_with fail
            refine wp_region_ext (by kernel_rfl) (by kernel_rfl) ?_
            repeat (go_big_quiet_step (((go_at_call 50; refine Calls.ext_of (Nat.le_refl _) (HD.out _)))))
            refine wpQuiet_nil ?_
            intro w1 hb1
            obtain ⟨hc1, hf1⟩ := bcell hb1
            have hB : Below w.heap.size w w1 := bfin (by go_grown) hb1
            go_wp2_with fail
            all_goals first | (exfalso; omega) | (go_ret; exact ⟨ret_bool (by unfold redDef; (try have qa := HQA.out); (try have qb := HQB.out); first | (exact (decide_eq_true (by omega)).symm) | (exact (decide_eq_false (by omega)).symm) | (rw [Bool.eq_iff_iff]; simp; omega)), hB⟩)
        · skip
          go_enter Try.func95, Try.ntmps95
          go_wp2_with fail
          refine wp_region_ext (by kernel_rfl) (by kernel_rfl) ?_
          repeat (go_big_quiet_step (((go_at_call 50; refine Calls.ext_of (Nat.le_refl _) (HD.out _)))))
          refine wpQuiet_nil ?_
          intro w1 hb1
          obtain ⟨hc1, hf1⟩ := bcell hb1
          have hB : Below w.heap.size w w1 := bfin (by go_grown) hb1
          go_wp2_with fail
          all_goals first | (exfalso; omega) | (go_ret; exact ⟨ret_bool (by unfold redDef; (try have qa := HQA.out); (try have qb := HQB.out); first | (exact (decide_eq_true (by omega)).symm) | (exact (decide_eq_false (by omega)).symm) | (rw [Bool.eq_iff_iff]; simp; omega)), hB⟩)
    · rw [redB_ind (show defB a b c = false by rw [hdd]; simp; omega)]
      clear hdd
      have hab : ¬ ((b.natAbs : Int) ≤ a) := fun hh => by
        have h1 := hdz (by omega) (by omega)
        omega
      clear hdz
      have HR := Lib.hid hr
      clear hr
      generalize disc a b c = D at *
      by_cases hb : 0 ≤ b
      · skip
        go_enter Try.func95, Try.ntmps95
        go_wp2_with fail
        refine wp_region_ext (by kernel_rfl) (by kernel_rfl) ?_
        repeat (go_big_quiet_step (((go_at_call 50; refine Calls.ext_of (Nat.le_refl _) (HD.out _)))))
        refine wpQuiet_nil ?_
        intro w1 hb1
        obtain ⟨hc1, hf1⟩ := bcell hb1
        have hB : Below w.heap.size w w1 := bfin (by go_grown) hb1
        go_wp2_with fail
        all_goals first | (exfalso; omega) | (go_ret; exact ⟨ret_bool (by rw [HR.out]; first | (exact (decide_eq_true (by omega)).symm) | (exact (decide_eq_false (by omega)).symm) | (rw [Bool.eq_iff_iff]; simp; omega)), hB⟩)
      · skip
        go_enter Try.func95, Try.ntmps95
        go_wp2_with fail
        refine wp_region_ext (by kernel_rfl) (by kernel_rfl) ?_
        repeat (go_big_quiet_step (((go_at_call 50; refine Calls.ext_of (Nat.le_refl _) (HD.out _)))))
        refine wpQuiet_nil ?_
        intro w1 hb1
        obtain ⟨hc1, hf1⟩ := bcell hb1
        have hB : Below w.heap.size w w1 := bfin (by go_grown) hb1
        go_wp2_with fail
        all_goals first | (exfalso; omega) | (go_ret; exact ⟨ret_bool (by rw [HR.out]; first | (exact (decide_eq_true (by omega)).symm) | (exact (decide_eq_false (by omega)).symm) | (rw [Bool.eq_iff_iff]; simp; omega)), hB⟩)
  · rw [redB_ind (show defB a b c = false by rw [hdd]; simp; omega)]
    clear hdd hdz
    generalize disc a b c = D at *
    by_cases hsa : 0 ≤ a
    · have hna : (a.natAbs : Int) = a := by omega
      rw [hna] at hr e3 e4 e5 e6
      clear hna
      have HR := Lib.hid hr
      clear hr
      by_cases hc17 : 0 < b
      · skip
        by_cases hc18 : b * b < D
        · skip
          by_cases hc19 : D < (2 * a + b) * (2 * a + b)
          · skip
            by_cases hc20 : 2 * a < b
            · skip
              go_enter Try.func95, Try.ntmps95
              go_wp2_with fail
              refine wp_region_ext (by kernel_rfl) (by kernel_rfl) ?_
              repeat (go_big_quiet_step (((go_at_call 50; refine Calls.ext_of (Nat.le_refl _) (HD.out _)))))
              refine wpQuiet_nil ?_
              intro w1 hb1
              obtain ⟨hc1, hf1⟩ := bcell hb1
              have hB : Below w.heap.size w w1 := bfin (by go_grown) hb1
              go_wp2_with fail
              all_goals first | (exfalso; omega) | (go_ret; exact ⟨ret_bool (by rw [HR.out]; first | (exact (decide_eq_true (by omega)).symm) | (exact (decide_eq_false (by omega)).symm) | (rw [Bool.eq_iff_iff]; simp; omega)), hB⟩)
            · skip
              by_cases hc21 : (2 * a - b) * (2 * a - b) < D
              · skip
                go_enter Try.func95, Try.ntmps95
                go_wp2_with fail
                refine wp_region_ext (by kernel_rfl) (by kernel_rfl) ?_
                repeat (go_big_quiet_step (((go_at_call 50; refine Calls.ext_of (Nat.le_refl _) (HD.out _)))))
                refine wpQuiet_nil ?_
                intro w1 hb1
                obtain ⟨hc1, hf1⟩ := bcell hb1
                have hB : Below w.heap.size w w1 := bfin (by go_grown) hb1
                go_wp2_with fail
                all_goals first | (exfalso; omega) | (go_ret; exact ⟨ret_bool (by rw [HR.out]; first | (exact (decide_eq_true (by omega)).symm) | (exact (decide_eq_false (by omega)).symm) | (rw [Bool.eq_iff_iff]; simp; omega)), hB⟩)
              · skip
                go_enter Try.func95, Try.ntmps95
                go_wp2_with fail
                refine wp_region_ext (by kernel_rfl) (by kernel_rfl) ?_
                repeat (go_big_quiet_step (((go_at_call 50; refine Calls.ext_of (Nat.le_refl _) (HD.out _)))))
                refine wpQuiet_nil ?_
                intro w1 hb1
                obtain ⟨hc1, hf1⟩ := bcell hb1
                have hB : Below w.heap.size w w1 := bfin (by go_grown) hb1
                go_wp2_with fail
                all_goals first | (exfalso; omega) | (go_ret; exact ⟨ret_bool (by rw [HR.out]; first | (exact (decide_eq_true (by omega)).symm) | (exact (decide_eq_false (by omega)).symm) | (rw [Bool.eq_iff_iff]; simp; omega)), hB⟩)
          · skip
            go_enter Try.func95, Try.ntmps95
            go_wp2_with fail
            refine wp_region_ext (by kernel_rfl) (by kernel_rfl) ?_
            repeat (go_big_quiet_step (((go_at_call 50; refine Calls.ext_of (Nat.le_refl _) (HD.out _)))))
            refine wpQuiet_nil ?_
            intro w1 hb1
            obtain ⟨hc1, hf1⟩ := bcell hb1
            have hB : Below w.heap.size w w1 := bfin (by go_grown) hb1
            go_wp2_with fail
            all_goals first | (exfalso; omega) | (go_ret; exact ⟨ret_bool (by rw [HR.out]; first | (exact (decide_eq_true (by omega)).symm) | (exact (decide_eq_false (by omega)).symm) | (rw [Bool.eq_iff_iff]; simp; omega)), hB⟩)
        · skip
          go_enter Try.func95, Try.ntmps95
          go_wp2_with fail
          refine wp_region_ext (by kernel_rfl) (by kernel_rfl) ?_
          repeat (go_big_quiet_step (((go_at_call 50; refine Calls.ext_of (Nat.le_refl _) (HD.out _)))))
          refine wpQuiet_nil ?_
          intro w1 hb1
          obtain ⟨hc1, hf1⟩ := bcell hb1
          have hB : Below w.heap.size w w1 := bfin (by go_grown) hb1
          go_wp2_with fail
          all_goals first | (exfalso; omega) | (go_ret; exact ⟨ret_bool (by rw [HR.out]; first | (exact (decide_eq_true (by omega)).symm) | (exact (decide_eq_false (by omega)).symm) | (rw [Bool.eq_iff_iff]; simp; omega)), hB⟩)
      · skip
        go_enter Try.func95, Try.ntmps95
        go_wp2_with fail
        refine wp_region_ext (by kernel_rfl) (by kernel_rfl) ?_
        repeat (go_big_quiet_step (((go_at_call 50; refine Calls.ext_of (Nat.le_refl _) (HD.out _)))))
        refine wpQuiet_nil ?_
        intro w1 hb1
        obtain ⟨hc1, hf1⟩ := bcell hb1
        have hB : Below w.heap.size w w1 := bfin (by go_grown) hb1
        go_wp2_with fail
        all_goals first | (exfalso; omega) | (go_ret; exact ⟨ret_bool (by rw [HR.out]; first | (exact (decide_eq_true (by omega)).symm) | (exact (decide_eq_false (by omega)).symm) | (rw [Bool.eq_iff_iff]; simp; omega)), hB⟩)
    · have hna : (a.natAbs : Int) = -a := by omega
      rw [hna] at hr e3 e4 e5 e6
      clear hna
      have HR := Lib.hid hr
      clear hr
      by_cases hc22 : 0 < b
      · skip
        by_cases hc23 : b * b < D
        · skip
          by_cases hc24 : D < (2 * -a + b) * (2 * -a + b)
          · skip
            by_cases hc25 : 2 * -a < b
            · skip
              go_enter Try.func95, Try.ntmps95
              go_wp2_with fail
              refine wp_region_ext (by kernel_rfl) (by kernel_rfl) ?_
              repeat (go_big_quiet_step (((go_at_call 50; refine Calls.ext_of (Nat.le_refl _) (HD.out _)))))
              refine wpQuiet_nil ?_
              intro w1 hb1
              obtain ⟨hc1, hf1⟩ := bcell hb1
              have hB : Below w.heap.size w w1 := bfin (by go_grown) hb1
              go_wp2_with fail
              all_goals first | (exfalso; omega) | (go_ret; exact ⟨ret_bool (by rw [HR.out]; first | (exact (decide_eq_true (by omega)).symm) | (exact (decide_eq_false (by omega)).symm) | (rw [Bool.eq_iff_iff]; simp; omega)), hB⟩)
            · skip
              by_cases hc26 : (2 * -a - b) * (2 * -a - b) < D
              · skip
                go_enter Try.func95, Try.ntmps95
                go_wp2_with fail
                refine wp_region_ext (by kernel_rfl) (by kernel_rfl) ?_
                repeat (go_big_quiet_step (((go_at_call 50; refine Calls.ext_of (Nat.le_refl _) (HD.out _)))))
                refine wpQuiet_nil ?_
                intro w1 hb1
                obtain ⟨hc1, hf1⟩ := bcell hb1
                have hB : Below w.heap.size w w1 := bfin (by go_grown) hb1
                go_wp2_with fail
                all_goals first | (exfalso; omega) | (go_ret; exact ⟨ret_bool (by rw [HR.out]; first | (exact (decide_eq_true (by omega)).symm) | (exact (decide_eq_false (by omega)).symm) | (rw [Bool.eq_iff_iff]; simp; omega)), hB⟩)
              · skip
                go_enter Try.func95, Try.ntmps95
                go_wp2_with fail
                refine wp_region_ext (by kernel_rfl) (by kernel_rfl) ?_
                repeat (go_big_quiet_step (((go_at_call 50; refine Calls.ext_of (Nat.le_refl _) (HD.out _)))))
                refine wpQuiet_nil ?_
                intro w1 hb1
                obtain ⟨hc1, hf1⟩ := bcell hb1
                have hB : Below w.heap.size w w1 := bfin (by go_grown) hb1
                go_wp2_with fail
                all_goals first | (exfalso; omega) | (go_ret; exact ⟨ret_bool (by rw [HR.out]; first | (exact (decide_eq_true (by omega)).symm) | (exact (decide_eq_false (by omega)).symm) | (rw [Bool.eq_iff_iff]; simp; omega)), hB⟩)
          · skip
            go_enter Try.func95, Try.ntmps95
            go_wp2_with fail
            refine wp_region_ext (by kernel_rfl) (by kernel_rfl) ?_
            repeat (go_big_quiet_step (((go_at_call 50; refine Calls.ext_of (Nat.le_refl _) (HD.out _)))))
            refine wpQuiet_nil ?_
            intro w1 hb1
            obtain ⟨hc1, hf1⟩ := bcell hb1
            have hB : Below w.heap.size w w1 := bfin (by go_grown) hb1
            go_wp2_with fail
            all_goals first | (exfalso; omega) | (go_ret; exact ⟨ret_bool (by rw [HR.out]; first | (exact (decide_eq_true (by omega)).symm) | (exact (decide_eq_false (by omega)).symm) | (rw [Bool.eq_iff_iff]; simp; omega)), hB⟩)
        · skip
          go_enter Try.func95, Try.ntmps95
          go_wp2_with fail
          refine wp_region_ext (by kernel_rfl) (by kernel_rfl) ?_
          repeat (go_big_quiet_step (((go_at_call 50; refine Calls.ext_of (Nat.le_refl _) (HD.out _)))))
          refine wpQuiet_nil ?_
          intro w1 hb1
          obtain ⟨hc1, hf1⟩ := bcell hb1
          have hB : Below w.heap.size w w1 := bfin (by go_grown) hb1
          go_wp2_with fail
          all_goals first | (exfalso; omega) | (go_ret; exact ⟨ret_bool (by rw [HR.out]; first | (exact (decide_eq_true (by omega)).symm) | (exact (decide_eq_false (by omega)).symm) | (rw [Bool.eq_iff_iff]; simp; omega)), hB⟩)
      · skip
        go_enter Try.func95, Try.ntmps95
        go_wp2_with fail
        refine wp_region_ext (by kernel_rfl) (by kernel_rfl) ?_
        repeat (go_big_quiet_step (((go_at_call 50; refine Calls.ext_of (Nat.le_refl _) (HD.out _)))))
        refine wpQuiet_nil ?_
        intro w1 hb1
        obtain ⟨hc1, hf1⟩ := bcell hb1
        have hB : Below w.heap.size w w1 := bfin (by go_grown) hb1
        go_wp2_with fail
        all_goals first | (exfalso; omega) | (go_ret; exact ⟨ret_bool (by rw [HR.out]; first | (exact (decide_eq_true (by omega)).symm) | (exact (decide_eq_false (by omega)).symm) | (rw [Bool.eq_iff_iff]; simp; omega)), hB⟩)

end Go.Proofs.Ytjgnhnbhcnfdbaa
