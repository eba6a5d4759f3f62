/- Contracts: squares, definite and indefinite forms. -/
import Derived.Test.YtjgnhnbhcnfdbaaC13
import Derived.Test.YtjgnhnbhcnfdbaaC4
import Derived.Test.YtjgnhnbhcnfdbaaN6
namespace Go.Proofs.Ytjgnhnbhcnfdbaa
open Go.RowKit
theorem isSquare_any (d : Int) (w : World) (d0 : 0 ≤ d) (d1 : d ≤ 5000000000000) :
    Calls Try.prog 97 #[(.int .i64 d)] w fun e w' => e = .returned (.bool (sqB d)) ∧ w = w' := by
  obtain ⟨h1, h2⟩ := isqrt_bd d0 d1
  have hm := mul_bd (a := isqrt d) (b := isqrt d) (A := 2236068) (B := 2236068) (by omega) h2 (by omega) h2
  obtain ⟨hm0, hm1⟩ := hm
  go_enter Try.func97, Try.ntmps97
  go_wp2_with fail
  refine (root_any _ _ d0 d1).mono ?_; rintro e w' ⟨rfl, rfl⟩
  go_wp2_with fail
  refine (root_any _ _ d0 d1).mono ?_; rintro e w' ⟨rfl, rfl⟩
  go_wp2_with fail
  go_ret
  exact ⟨rfl, rfl⟩
set_option maxHeartbeats 1000000 in
theorem l05Square_any (d : Int) (w : World) (d0 : 0 ≤ d) (d1 : d ≤ 5000000000000) :
    Calls Try.prog 93 #[(.int .i64 d)] w fun e w' => e = .returned (.bool (sqB d)) ∧ w = w' := by
  go_enter Try.func93, Try.ntmps93
  go_wp2_with fail
  go_loop [3, 4] (fun r s => ∃ x y : Int, r = (.int .i64 x) ∧ s = (.int .i64 y) ∧ 0 ≤ x ∧ 0 ≤ y ∧ y ≤ 2147483648 ∧ Hid (SqInv d x y)) (fun _ s => (intOf s).toNat)
  case atStart => exact ⟨0, _, rfl, rfl, by omega, by omega, by omega, Lib.hid (sqInv_start d0 d1)⟩
  case round =>
    obtain ⟨x, y, rfl, rfl, x0, y0, y1, H⟩ := hrel
    have hx := sqInv_x H.out d1
    by_cases hy : 0 < y
    · have hm := mul_bd (a := x + y) (b := x + y) (A := 2149719716) (B := 2149719716) (by omega) (by omega) (by omega) (by omega)
      obtain ⟨hm0, hm1⟩ := hm
      by_cases hc : (x + y) * (x + y) ≤ d
      · have H2 := Lib.hid (sqInv_yes hy H.out hc)
        go_wp2_with fail
        go_round
        case rel => exact ⟨_, _, rfl, rfl, by omega, by omega, by omega, H2⟩
        case measure => simp [intOf]; omega
      · have H2 := Lib.hid (sqInv_no hy H.out hc)
        go_wp2_with fail
        go_round
        case rel => exact ⟨_, _, rfl, rfl, by omega, by omega, by omega, H2⟩
        case measure => simp [intOf]; omega
    · obtain rfl : y = 0 := by omega
      have HE := Lib.hid (sqB_eq (sqInv_end H.out x0) d0)
      have hm := mul_bd (a := x) (b := x) (A := 2236068) (B := 2236068) (by omega) (by omega) (by omega) (by omega)
      obtain ⟨hm0, hm1⟩ := hm
      go_wp2_with fail
      go_ret
      exact ⟨ret_bool HE.out, rfl⟩
def defB (a b c : Int) : Bool := decide (disc a b c < 0) && decide (0 < a)
def indB (a b c : Int) : Bool := decide (0 < disc a b c) && !sqB (disc a b c)
theorem isDefinite_any (a b c : Int) (w : World) (h : Small a b c) :
    Calls Try.prog 60 #[(.agg #[.int .i64 a, .int .i64 b, .int .i64 c])] w fun e w' => e = .returned (.bool (defB a b c)) ∧ Below w.heap.size w w' := by
  have HD := Lib.hid (fun W => disc_any a b c W h)
  have hdb : defB a b c = (decide (disc a b c < 0) && decide (0 < a)) := rfl
  rw [show (b * b - 4 * a * c : Int) = disc a b c from rfl] at HD
  generalize disc a b c = D at *
  by_cases h1 : D < 0 <;> by_cases h2 : 0 < a
  all_goals
    rw [hdb]
    clear hdb
    go_enter Try.func60, Try.ntmps60
    go_wp2_with fail
    refine (HD.out _).mono ?_; rintro e w1 ⟨rfl, hb1⟩
    obtain ⟨hc1, hf1⟩ := bcell hb1
    have hB1 : Below w.heap.size w w1 := bfin (by go_grown) hb1
    go_wp2_with fail
    go_ret
    exact ⟨ret_bool (by simp <;> omega), by go_grown⟩
theorem l05Definite_any (a b c : Int) (w : World) (h : Small a b c) :
    Calls Try.prog 58 #[(.agg #[.int .i64 a, .int .i64 b, .int .i64 c])] w fun e w' => e = .returned (.bool (defB a b c)) ∧ Below w.heap.size w w' := by
  have HD := Lib.hid (fun W => l05Disc_any a b c W h)
  have hdb : defB a b c = (decide (disc a b c < 0) && decide (0 < a)) := rfl
  rw [show (b * b - 4 * a * c : Int) = disc a b c from rfl] at HD
  generalize disc a b c = D at *
  by_cases h1 : D < 0 <;> by_cases h2 : 0 < a
  all_goals
    rw [hdb]
    clear hdb
    go_enter Try.func58, Try.ntmps58
    go_wp2_with fail
    refine (HD.out _).mono ?_; rintro e w1 ⟨rfl, hb1⟩
    obtain ⟨hc1, hf1⟩ := bcell hb1
    have hB1 : Below w.heap.size w w1 := bfin (by go_grown) hb1
    go_wp2_with fail
    go_ret
    exact ⟨ret_bool (by simp <;> omega), by go_grown⟩
theorem isIndefinite_any (a b c : Int) (w : World) (h : Small a b c) :
    Calls Try.prog 55 #[(.agg #[.int .i64 a, .int .i64 b, .int .i64 c])] w fun e w' => e = .returned (.bool (indB a b c)) ∧ Below w.heap.size w w' := by
  have HD := Lib.hid (fun W => disc_any a b c W h)
  have hdb : indB a b c = (decide (0 < disc a b c) && !sqB (disc a b c)) := rfl
  obtain ⟨_, hd1⟩ := disc_bd h
  rw [show (b * b - 4 * a * c : Int) = disc a b c from rfl] at HD
  generalize disc a b c = D at *
  rw [hdb]
  clear hdb
  by_cases h1 : 0 < D
  · skip
    go_enter Try.func55, Try.ntmps55
    go_wp2_with fail
    refine (HD.out _).mono ?_; rintro e w1 ⟨rfl, hb1⟩
    obtain ⟨hc1, hf1⟩ := bcell hb1
    go_wp2_with fail
    refine (HD.out _).mono ?_; rintro e w2 ⟨rfl, hb2⟩
    replace hb2 := bstep hb1 hb2
    clear hc1 hf1 hb1
    obtain ⟨hc2, hf2⟩ := bcell hb2
    go_wp2_with fail
    refine (isSquare_any _ _ (by omega) hd1).mono ?_; rintro e w' ⟨rfl, rfl⟩
    have hB2 : Below w.heap.size w w2 := bfin (by go_grown) hb2
    go_wp2_with fail
    go_ret
    exact ⟨ret_bool (by simp; omega), by go_grown⟩
  · skip
    go_enter Try.func55, Try.ntmps55
    go_wp2_with fail
    refine (HD.out _).mono ?_; rintro e w1 ⟨rfl, hb1⟩
    obtain ⟨hc1, hf1⟩ := bcell hb1
    have hB1 : Below w.heap.size w w1 := bfin (by go_grown) hb1
    go_wp2_with fail
    go_ret
    exact ⟨ret_bool (by simp; omega), by go_grown⟩
theorem l05Indefinite_any (a b c : Int) (w : World) (h : Small a b c) :
    Calls Try.prog 101 #[(.agg #[.int .i64 a, .int .i64 b, .int .i64 c])] w fun e w' => e = .returned (.bool (indB a b c)) ∧ Below w.heap.size w w' := by
  have HD := Lib.hid (fun W => l05Disc_any a b c W h)
  have hdb : indB a b c = (decide (0 < disc a b c) && !sqB (disc a b c)) := rfl
  obtain ⟨_, hd1⟩ := disc_bd h
  rw [show (b * b - 4 * a * c : Int) = disc a b c from rfl] at HD
  generalize disc a b c = D at *
  rw [hdb]
  clear hdb
  by_cases h1 : 0 < D
  · skip
    go_enter Try.func101, Try.ntmps101
    go_wp2_with fail
    refine (HD.out _).mono ?_; rintro e w1 ⟨rfl, hb1⟩
    obtain ⟨hc1, hf1⟩ := bcell hb1
    go_wp2_with fail
    refine (l05Square_any _ _ (by omega) hd1).mono ?_; rintro e w' ⟨rfl, rfl⟩
    have hB1 : Below w.heap.size w w1 := bfin (by go_grown) hb1
    go_wp2_with fail
    go_ret
    exact ⟨ret_bool (by simp; omega), by go_grown⟩
  · skip
    go_enter Try.func101, Try.ntmps101
    go_wp2_with fail
    refine (HD.out _).mono ?_; rintro e w1 ⟨rfl, hb1⟩
    obtain ⟨hc1, hf1⟩ := bcell hb1
    have hB1 : Below w.heap.size w w1 := bfin (by go_grown) hb1
    go_wp2_with fail
    go_ret
    exact ⟨ret_bool (by simp; omega), by go_grown⟩
end Go.Proofs.Ytjgnhnbhcnfdbaa
