/- Contracts: two fractions; neighbours, and the matrix of two neighbours. -/
import Derived.Test.YtjnkogkpdbgohaaGreatDoorC30
import Derived.Test.YtjnkogkpdbgohaaGreatDoorBox
import Derived.Test.YtjnkogkpdbgohaaGreatDoorNa
namespace Go.Proofs.YtjnkogkpdbgohaaGreatDoor
open Go.RowKit
structure Cells4F (w : World) (bk : Nat) (a b c d : Int) : Prop where
  h0 : w.cell? ⟨bk, 0, none⟩ = some (.int .i64 a)
  h1 : w.cell? ⟨bk, 1, none⟩ = some (.int .i64 b)
  h2 : w.cell? ⟨bk, 2, none⟩ = some (.int .i64 c)
  h3 : w.cell? ⟨bk, 3, none⟩ = some (.int .i64 d)
  lt : bk < w.heap.size
theorem cells4F {w : World} {b : Nat} {t : TypeId} {a0 a1 a2 a3 : Int} (h : w.heap[b]? = some (.cells #[(.int .i64 a0), (.int .i64 a1), (.int .i64 a2), (.int .i64 a3)] t (0, 0))) : Cells4F w b a0 a1 a2 a3 :=
  ⟨cell_of_blk h 0, cell_of_blk h 1, cell_of_blk h 2, cell_of_blk h 3, lt_of_blk h⟩
set_option maxRecDepth 100000 in
set_option maxHeartbeats 1000000 in
theorem areFractions_2 (bk : Nat) (a b c d : Int) (w : World) (h : Cells4F w bk a b c d) :
    Calls Tryz.prog 39 #[.slice (some ⟨bk, 0, none⟩) 2 2] w fun e w' => e = .returned (.bool (isFrac a b && isFrac c d)) ∧ Below w.heap.size w w' := by
  obtain ⟨h0, h1, h2, h3, hlt⟩ := h
  cases hM : isFrac a b
  · simp only [Bool.false_and]
    go_enter Tryz.func39, Tryz.ntmps39
    go_wp2_with fail
    refine wp_loop_rounds 3 ?_
    rw [rounds_succ]
    go_wp2_with fail
    refine (IsFraction_any _ _ _).mono ?_; rintro e w1 ⟨rfl, hb1⟩
    obtain ⟨hc1, hf1⟩ := bcell hb1
    have hB1 : Below w.heap.size w w1 := bfin (by go_grown) hb1
    go_wp2_with fail
    go_ret
    exact ⟨rfl, by go_grown⟩
  cases hN : isFrac c d
  · simp only [Bool.and_false]
    go_enter Tryz.func39, Tryz.ntmps39
    go_wp2_with fail
    refine wp_loop_rounds 3 ?_
    rw [rounds_succ]
    go_wp2_with fail
    refine (IsFraction_any _ _ _).mono ?_; rintro e w1 ⟨rfl, hb1⟩
    obtain ⟨hc1, hf1⟩ := bcell hb1
    have hz1_0 : bk < w1.heap.size := by have := hb1.size; (try simp at this); omega
    go_wp2_with fail
    rw [rounds_succ]
    have hB1 : Below w.heap.size w w1 := bfin (by go_grown) hb1
    go_wp2_with fail
    refine (IsFraction_any _ _ _).mono ?_; rintro e w2 ⟨rfl, hb2⟩
    obtain ⟨hc2, hf2⟩ := bcell hb2
    have hS1 := hB1.size
    have hB2 : Below w.heap.size w w2 := bfin (by go_grown) hb2
    go_wp2_with fail
    go_ret
    exact ⟨rfl, by go_grown⟩
  · simp only [Bool.and_self]
    go_enter Tryz.func39, Tryz.ntmps39
    go_wp2_with fail
    refine wp_loop_rounds 3 ?_
    rw [rounds_succ]
    go_wp2_with fail
    refine (IsFraction_any _ _ _).mono ?_; rintro e w1 ⟨rfl, hb1⟩
    obtain ⟨hc1, hf1⟩ := bcell hb1
    have hz1_0 : bk < w1.heap.size := by have := hb1.size; (try simp at this); omega
    go_wp2_with fail
    rw [rounds_succ]
    have hB1 : Below w.heap.size w w1 := bfin (by go_grown) hb1
    go_wp2_with fail
    refine (IsFraction_any _ _ _).mono ?_; rintro e w2 ⟨rfl, hb2⟩
    obtain ⟨hc2, hf2⟩ := bcell hb2
    go_wp2_with fail
    rw [rounds_succ]
    have hS1 := hB1.size
    have hB2 : Below w.heap.size w w2 := bfin (by go_grown) hb2
    go_wp2_with fail
    go_ret
    exact ⟨rfl, by go_grown⟩
def crossV (a b c d : Int) : Int := a * d - b * c
structure CrBd (a b c d : Int) : Prop where
  x : -1000000000000000000 ≤ a * d ∧ a * d ≤ 1000000000000000000
  y : -1000000000000000000 ≤ b * c ∧ b * c ≤ 1000000000000000000
theorem crBd {a b c d : Int} (h : isFrac a b = true) (h' : isFrac c d = true) : CrBd a b c d := by
  obtain ⟨⟨a0, a1⟩, ⟨b0, b1⟩, -, -⟩ := isFrac_iff.1 h
  obtain ⟨⟨c0, c1⟩, ⟨d0, d1⟩, -, -⟩ := isFrac_iff.1 h'
  exact ⟨mul_bd (A := 1000000000) (B := 1000000000) a0 a1 (by omega) d1, mul_bd (A := 1000000000) (B := 1000000000) (by omega) b1 c0 c1⟩
theorem cross_any (a b c d : Int) (w : World) (h : CrBd a b c d) :
    Calls Tryz.prog 41 #[(.agg #[.int .i64 a, .int .i64 b]), (.agg #[.int .i64 c, .int .i64 d])] w fun e w' => e = .returned (.int .i64 (crossV a b c d)) ∧ Below w.heap.size w w' := by
  obtain ⟨⟨x0, x1⟩, ⟨y0, y1⟩⟩ := h
  go_enter Tryz.func41, Tryz.ntmps41
  go_wp2
  go_ret
  exact ⟨rfl, by go_grown⟩
def nearB (a b c d : Int) : Bool := decide (crossV a b c d = 1 ∨ crossV a b c d = -1)
def nearRes (a b c d : Int) : Bool × Int := if (isFrac a b && isFrac c d) = true then (nearB a b c d, 0) else (false, 1)
set_option maxRecDepth 100000 in
set_option maxHeartbeats 1000000 in
theorem AreNeighbours_any (a b c d : Int) (w : World) :
    Calls Tryz.prog 10 #[(.agg #[.int .i64 a, .int .i64 b]), (.agg #[.int .i64 c, .int .i64 d])] w fun e w' => e = .returned (.tuple #[.bool (nearRes a b c d).1, (.int .i64 ((nearRes a b c d).2))]) ∧ Below w.heap.size w w' := by
  cases hf : (isFrac a b && isFrac c d)
  · rw [show nearRes a b c d = (false, 1) by simp [nearRes, hf]]
    have HF := Lib.hid (fun bk W h => areFractions_2 bk a b c d W h)
    rw [hf] at HF
    go_enter Tryz.func10, Tryz.ntmps10
    go_wp2_with fail
    refine (HF.out _ _ ⟨by go_simp, by go_simp, by go_simp, by go_simp, by simp⟩).mono ?_; rintro e w1 ⟨rfl, hb1⟩
    obtain ⟨hc1, hf1⟩ := bcell hb1
    have hB1 : Below w.heap.size w w1 := bfin (by go_grown) hb1
    go_wp2_with fail
    go_ret2
    exact ⟨rfl, by go_grown⟩
  · rw [show nearRes a b c d = (nearB a b c d, 0) by simp [nearRes, hf]]
    have HF := Lib.hid (fun bk W h => areFractions_2 bk a b c d W h)
    rw [hf] at HF
    rw [Bool.and_eq_true] at hf
    have hc := crBd hf.1 hf.2
    have HC := Lib.hid (fun W => cross_any a b c d W hc)
    have hb : -2000000000000000000 ≤ crossV a b c d ∧ crossV a b c d ≤ 2000000000000000000 := by
      obtain ⟨⟨x0, x1⟩, ⟨y0, y1⟩⟩ := hc
      unfold crossV; omega
    have he : nearB a b c d = (((crossV a b c d).natAbs : Int) == 1) := by
      unfold nearB
      rw [Bool.eq_iff_iff]
      simp only [decide_eq_true_eq, beq_iff_eq]
      omega
    rw [he]
    generalize crossV a b c d = X at *
    obtain ⟨b0, b1⟩ := hb
    have HS := Lib.hid (fun W => size_any X W (by omega) (by omega))
    clear hc he hf
    go_enter Tryz.func10, Tryz.ntmps10
    go_wp2_with fail
    refine (HF.out _ _ ⟨by go_simp, by go_simp, by go_simp, by go_simp, by simp⟩).mono ?_; rintro e w1 ⟨rfl, hb1⟩
    obtain ⟨hc1, hf1⟩ := bcell hb1
    obtain ⟨hz1_0, hz1_1⟩ : w.heap.size < w1.heap.size ∧ w.heap.size + 1 < w1.heap.size := by have := hb1.size; (try simp at this); omega
    have hB1 : Below w.heap.size w w1 := bfin (by go_grown) hb1
    go_wp2_with fail
    refine (HC.out _).mono ?_; rintro e w2 ⟨rfl, hb2⟩
    obtain ⟨hc2, hf2⟩ := bcell hb2
    go_wp2_with fail
    refine (HS.out _).mono ?_; rintro e w' ⟨rfl, rfl⟩
    have hB2 : Below w.heap.size w w2 := bfin (by go_grown) hb2
    go_wp2_with fail
    go_ret2
    exact ⟨rfl, by go_grown⟩
theorem l03Near_any (a b c d : Int) (w : World) (h : CrBd a b c d) :
    Calls Tryz.prog 56 #[(.agg #[.int .i64 a, .int .i64 b]), (.agg #[.int .i64 c, .int .i64 d])] w fun e w' => e = .returned (.bool (nearB a b c d)) ∧ Below w.heap.size w w' := by
  obtain ⟨⟨x0, x1⟩, ⟨y0, y1⟩⟩ := h
  have hX : a * d - b * c = crossV a b c d := rfl
  have hb : -2000000000000000000 ≤ crossV a b c d ∧ crossV a b c d ≤ 2000000000000000000 := by unfold crossV; omega
  unfold nearB
  generalize crossV a b c d = X at *
  by_cases h1 : X = 1
  · subst h1
    go_enter Tryz.func56, Tryz.ntmps56
    go_wp2
    go_ret
    exact ⟨by simp, by go_grown⟩
  · have h1' : (X == 1) = false := by simpa using h1
    go_enter Tryz.func56, Tryz.ntmps56
    go_wp2
    go_ret
    refine ⟨ret_bool ?_, by go_grown⟩
    rw [Bool.eq_iff_iff]
    simp [h1]
def bothC (a b c d : Int) : Int := if (isFrac a b && isFrac c d) = true then 0 else 1
theorem l03Both_any (a b c d : Int) (w : World) :
    Calls Tryz.prog 53 #[(.agg #[.int .i64 a, .int .i64 b]), (.agg #[.int .i64 c, .int .i64 d])] w fun e w' => e = .returned (.int .i64 (bothC a b c d)) ∧ Below w.heap.size w w' := by
  have H1 := Lib.hid (fun W => l01Fraction_any a b W)
  have H2 := Lib.hid (fun W => l01Fraction_any c d W)
  unfold bothC
  cases hf : isFrac a b
  · simp only [Bool.false_and]
    rw [hf] at H1
    go_enter Tryz.func53, Tryz.ntmps53
    go_wp2_with fail
    refine (H1.out _).mono ?_; rintro e w1 ⟨rfl, hb1⟩
    obtain ⟨hc1, hf1⟩ := bcell hb1
    have hB1 : Below w.heap.size w w1 := bfin (by go_grown) hb1
    go_wp2_with fail
    go_ret
    exact ⟨rfl, by go_grown⟩
  · rw [hf] at H1
    cases hg : isFrac c d
    all_goals
      rw [hg] at H2
      simp only [Bool.and_false, Bool.and_self]
      go_enter Tryz.func53, Tryz.ntmps53
      go_wp2_with fail
      refine (H1.out _).mono ?_; rintro e w1 ⟨rfl, hb1⟩
      obtain ⟨hc1, hf1⟩ := bcell hb1
      obtain ⟨hz1_0, hz1_1⟩ : w.heap.size < w1.heap.size ∧ w.heap.size + 1 < w1.heap.size := by have := hb1.size; (try simp at this); omega
      have hB1 : Below w.heap.size w w1 := bfin (by go_grown) hb1
      go_wp2_with fail
      refine (H2.out _).mono ?_; rintro e w2 ⟨rfl, hb2⟩
      obtain ⟨hc2, hf2⟩ := bcell hb2
      have hB2 : Below w.heap.size w w2 := bfin (by go_grown) hb2
      go_wp2_with fail
      go_ret
      exact ⟨rfl, by go_grown⟩
def mnRes (a b c d : Int) : M4 × Int := if (isFrac a b && isFrac c d) = true then (if crossV a b c d = 1 then (⟨a, c, b, d⟩, 0) else if crossV a b c d = -1 then (⟨a, -c, b, -d⟩, 0) else (⟨0, 0, 0, 0⟩, 5)) else (⟨0, 0, 0, 0⟩, 1)
abbrev mnV (R : M4 × Int) : Value := .tuple #[(.agg #[.int .i64 R.1.p, .int .i64 R.1.q, .int .i64 R.1.r, .int .i64 R.1.s]), (.int .i64 R.2)]
end Go.Proofs.YtjnkogkpdbgohaaGreatDoor
