/- Contracts: the whole square root, by floats and by halves. -/
import Derived.Test.YtcaiofhdcffogaaCa
import Derived.Test.YtcaiofhdcffogaaNa
import Derived.Test.YtcaiofhdcffogaaFloat
import Derived.Laws.Externs
import Derived.Test.YtcaiofhdcffogaaCb
namespace Go.Proofs.Ytcaiofhdcffogaa
open Go.RowKit
theorem findNextSqrt : Extern.findNext Try.f102 = none := by kernel_rfl
theorem findSqrt : Extern.find Try.f102 = some Extern.MathSqrt.sqrt := by kernel_rfl
theorem mathsqrt_any (x r : Nat) (w : World) (h : Ieee.double.sqrt x = some r) :
    Calls Try.prog 94 #[.float .f64 x] w fun e w' => e = .returned (.float .f64 r) ∧ w = w' := by
  have h1 : ∀ w, (Extern.MathSqrt.sqrt #[.float .f64 x]).run Try.prog w = .ok (.float .f64 r) w := by
    intro w
    have e : Extern.MathSqrt.sqrt #[.float .f64 x] = (match Ieee.double.sqrt x with
      | some r => pure (.float .f64 r)
      | none => do pure (.float .f64 (← choose (.nanBits .f64 x x)))) := rfl
    rw [e, h]
    rfl
  have h2 : ∀ w, (callFunc 102 #[.float .f64 x]).run Try.prog w = .ok (.value (.float .f64 r)) w := by
    intro w
    rw [run_callFunc_extern Try.func102 (by kernel_rfl) (by kernel_rfl) findNextSqrt findSqrt, h1]
    rfl
  have H := Lib.hid h
  clear h h1
  go_enter Try.func94, Try.ntmps94
  go_wp2
  go_ret
  exact ⟨rfl, rfl⟩
theorem conv_if (d : Nat) (w : World) : (convert 2 94 (.int .i64 (d : Int))).run Try.prog w = .ok (.float .f64 (Ieee.double.nearest false d 0)) w := by
  have h : (convert 2 94 (.int .i64 (d : Int))).run Try.prog w = .ok (.float .f64 (FloatKind.f64.nearest (d : Int))) w := by
    simp [convert, run_underlying Try.underlying2, run_underlying Try.underlying94, Conv.intToFloat]
  rw [h]
  have : decide ((d : Int) < 0) = false := by simp
  simp only [FloatKind.nearest, FloatKind.encode, FloatKind.format, Ieee.Format.write, this, Int.natAbs_natCast]
theorem conv_fi (b r : Nat) (w : World) (h : (Ieee.double.read b).toInt .zero = some (r : Int)) (hr : r ≤ 2 ^ 23) : (convert 94 2 (.float .f64 b)).run Try.prog w = .ok (.int .i64 (r : Int)) w := by
  have e : (convert 94 2 (.float .f64 b)).run Try.prog w = (Conv.floatToInt .f64 b .i64).run Try.prog w := by
    simp [convert, run_underlying Try.underlying2, run_underlying Try.underlying94]
  rw [e]
  unfold Conv.floatToInt
  simp only [FloatKind.decode, FloatKind.format, h]
  rw [if_pos (by simp [IntKind.min, IntKind.max, IntKind.signed, IntKind.bits]; omega)]
  rfl
set_option maxHeartbeats 1000000 in
theorem root_any (d : Int) (w : World) (d0 : 0 ≤ d) (d1 : d ≤ 5000000000000) :
    Calls Try.prog 71 #[(.int .i64 d)] w fun e w' => e = .returned (.int .i64 (isqrt d)) ∧ w = w' := by
  obtain ⟨n, rfl⟩ := Int.eq_ofNat_of_zero_le d0
  obtain ⟨bits, hs, r, hr, hb⟩ := Fl.sqrt_int n (by omega)
  have c1 := fun w => conv_if n w
  have c2 := fun w => conv_fi bits r w hr hb
  have HU := Lib.hid (fun s => @root_unique s (isqrt (n : Int)) n)
  have HR := Lib.hid (isqrt_root d0)
  have HS := Lib.hid hs
  have hb' : (r : Int) ≤ 8388608 := by omega
  clear hs hr hb
  go_enter Try.func71, Try.ntmps71
  go_wp2_with fail
  refine (mathsqrt_any _ _ _ HS.out).mono ?_; rintro e w' ⟨rfl, rfl⟩
  clear c1
  go_wp2_with fail
  clear c2
  go_loop [3] (fun x => ∃ s : Int, x = (.int .i64 s) ∧ 0 ≤ s ∧ s ≤ 8388608) (fun x => (intOf x).toNat)
  case atStart => exact ⟨_, rfl, by omega, hb'⟩
  case round =>
    obtain ⟨s, rfl, s0, s1⟩ := hrel
    have hm := mul_bd (a := s) (b := s) (A := 8388608) (B := 8388608) (by omega) s1 (by omega) s1
    obtain ⟨hm0, hm1⟩ := hm
    by_cases hgt : (n : Int) < s * s
    · have hs1 : 1 ≤ s := by
        rcases Int.lt_or_le s 1 with h | h
        · have : s = 0 := by omega
          subst this
          simp at hgt
          omega
        · exact h
      go_wp2_with fail
      go_round
      case rel => exact ⟨_, rfl, by omega, by omega⟩
      case measure => simp [intOf]; omega
    · have hle : s * s ≤ n := by omega
      have HL := Lib.hid hle
      go_wp2_with fail
      go_loop [3] (fun x => ∃ s : Int, x = (.int .i64 s) ∧ 0 ≤ s ∧ s * s ≤ n) (fun x => (3000000 - intOf x).toNat)
      case atStart => exact ⟨_, rfl, s0, HL.out⟩
      case round =>
        obtain ⟨t, rfl, t0, t1⟩ := hrel
        have ht : t ≤ 2236068 := by
          refine Int.not_lt.1 fun hh => ?_
          have := mul_le_self (show (0 : Int) ≤ 2236069 by omega) (show (2236069 : Int) ≤ t by omega)
          omega
        have hm2 := mul_bd (a := t + 1) (b := t + 1) (A := 2236069) (B := 2236069) (by omega) (by omega) (by omega) (by omega)
        obtain ⟨hm3, hm4⟩ := hm2
        by_cases hle2 : (t + 1) * (t + 1) ≤ n
        · go_wp2_with fail
          go_round
          case rel => exact ⟨_, rfl, by omega, hle2⟩
          case measure => simp [intOf]; omega
        · have hlt : (n : Int) < (t + 1) * (t + 1) := by omega
          have HT := Lib.hid (HU.out t ⟨t0, t1, hlt⟩ HR.out)
          go_wp2_with fail
          go_ret
          exact ⟨ret_int HT.out, rfl⟩
end Go.Proofs.Ytcaiofhdcffogaa
/- Contracts: squares, definite and indefinite forms. -/
namespace Go.Proofs.Ytcaiofhdcffogaa
open Go.RowKit
theorem isSquare_any (d : Int) (w : World) (d0 : 0 ≤ d) (d1 : d ≤ 5000000000000) :
    Calls Try.prog 70 #[(.int .i64 d)] w fun e w' => e = .returned (.bool (sqB d)) ∧ w = w' := by
  obtain ⟨h1, h2⟩ := isqrt_bd d0 d1
  have hm := mul_bd (a := isqrt d) (b := isqrt d) (A := 2236068) (B := 2236068) (by omega) h2 (by omega) h2
  obtain ⟨hm0, hm1⟩ := hm
  go_enter Try.func70, Try.ntmps70
  go_wp2_with fail
  refine (root_any _ _ d0 d1).mono ?_; rintro e w' ⟨rfl, rfl⟩
  go_wp2_with fail
  refine (root_any _ _ d0 d1).mono ?_; rintro e w' ⟨rfl, rfl⟩
  go_wp2_with fail
  go_ret
  exact ⟨rfl, rfl⟩
set_option maxHeartbeats 1000000 in
theorem l05Square_any (d : Int) (w : World) (d0 : 0 ≤ d) (d1 : d ≤ 5000000000000) :
    Calls Try.prog 75 #[(.int .i64 d)] w fun e w' => e = .returned (.bool (sqB d)) ∧ w = w' := by
  go_enter Try.func75, Try.ntmps75
  go_wp2_with fail
  go_loop [3, 4] (fun r s => ∃ x y : Int, r = (.int .i64 x) ∧ s = (.int .i64 y) ∧ 0 ≤ x ∧ 0 ≤ y ∧ y ≤ 2147483648 ∧ Hid (SqInv d x y)) (fun _ s => (intOf s).toNat)
  case atStart => exact ⟨0, _, rfl, rfl, by omega, by omega, by omega, Lib.hid (sqInv_start d0 d1)⟩
  case round =>
    obtain ⟨x, y, rfl, rfl, x0, y0, y1, H⟩ := hrel
    have hx := sqInv_x H.out d1
    by_cases hy : 0 < y
    · have hm := mul_bd (a := x + y) (b := x + y) (A := 2149719716) (B := 2149719716) (by omega) (by omega) (by omega) (by omega)
      obtain ⟨hm0, hm1⟩ := hm
      by_cases hc : (x + y) * (x + y) ≤ d
      · have H2 := Lib.hid (sqInv_yes hy H.out hc)
        go_wp2_with fail
        go_round
        case rel => exact ⟨_, _, rfl, rfl, by omega, by omega, by omega, H2⟩
        case measure => simp [intOf]; omega
      · have H2 := Lib.hid (sqInv_no hy H.out hc)
        go_wp2_with fail
        go_round
        case rel => exact ⟨_, _, rfl, rfl, by omega, by omega, by omega, H2⟩
        case measure => simp [intOf]; omega
    · obtain rfl : y = 0 := by omega
      have HE := Lib.hid (sqB_eq (sqInv_end H.out x0) d0)
      have hm := mul_bd (a := x) (b := x) (A := 2236068) (B := 2236068) (by omega) (by omega) (by omega) (by omega)
      obtain ⟨hm0, hm1⟩ := hm
      go_wp2_with fail
      go_ret
      exact ⟨ret_bool HE.out, rfl⟩
def defB (a b c : Int) : Bool := decide (disc a b c < 0) && decide (0 < a)
def indB (a b c : Int) : Bool := decide (0 < disc a b c) && !sqB (disc a b c)
theorem isDefinite_any (a b c : Int) (w : World) (h : Small a b c) :
    Calls Try.prog 36 #[(.agg #[.int .i64 a, .int .i64 b, .int .i64 c])] w fun e w' => e = .returned (.bool (defB a b c)) ∧ Below w.heap.size w w' := by
  have HD := Lib.hid (fun W => disc_any a b c W h)
  have hdb : defB a b c = (decide (disc a b c < 0) && decide (0 < a)) := rfl
  rw [show (b * b - 4 * a * c : Int) = disc a b c from rfl] at HD
  generalize disc a b c = D at *
  by_cases h1 : D < 0 <;> by_cases h2 : 0 < a
  all_goals
    rw [hdb]
    clear hdb
    go_enter Try.func36, Try.ntmps36
    go_wp2_with fail
    refine (HD.out _).mono ?_; rintro e w1 ⟨rfl, hb1⟩
    obtain ⟨hc1, hf1⟩ := bcell hb1
    have hB1 : Below w.heap.size w w1 := bfin (by go_grown) hb1
    go_wp2_with fail
    go_ret
    exact ⟨ret_bool (by simp <;> omega), by go_grown⟩
theorem l05Definite_any (a b c : Int) (w : World) (h : Small a b c) :
    Calls Try.prog 62 #[(.agg #[.int .i64 a, .int .i64 b, .int .i64 c])] w fun e w' => e = .returned (.bool (defB a b c)) ∧ Below w.heap.size w w' := by
  have HD := Lib.hid (fun W => l05Disc_any a b c W h)
  have hdb : defB a b c = (decide (disc a b c < 0) && decide (0 < a)) := rfl
  rw [show (b * b - 4 * a * c : Int) = disc a b c from rfl] at HD
  generalize disc a b c = D at *
  by_cases h1 : D < 0 <;> by_cases h2 : 0 < a
  all_goals
    rw [hdb]
    clear hdb
    go_enter Try.func62, Try.ntmps62
    go_wp2_with fail
    refine (HD.out _).mono ?_; rintro e w1 ⟨rfl, hb1⟩
    obtain ⟨hc1, hf1⟩ := bcell hb1
    have hB1 : Below w.heap.size w w1 := bfin (by go_grown) hb1
    go_wp2_with fail
    go_ret
    exact ⟨ret_bool (by simp <;> omega), by go_grown⟩
theorem isIndefinite_any (a b c : Int) (w : World) (h : Small a b c) :
    Calls Try.prog 37 #[(.agg #[.int .i64 a, .int .i64 b, .int .i64 c])] w fun e w' => e = .returned (.bool (indB a b c)) ∧ Below w.heap.size w w' := by
  have HD := Lib.hid (fun W => disc_any a b c W h)
  have hdb : indB a b c = (decide (0 < disc a b c) && !sqB (disc a b c)) := rfl
  obtain ⟨_, hd1⟩ := disc_bd h
  rw [show (b * b - 4 * a * c : Int) = disc a b c from rfl] at HD
  generalize disc a b c = D at *
  rw [hdb]
  clear hdb
  by_cases h1 : 0 < D
  · skip
    go_enter Try.func37, Try.ntmps37
    go_wp2_with fail
    refine (HD.out _).mono ?_; rintro e w1 ⟨rfl, hb1⟩
    obtain ⟨hc1, hf1⟩ := bcell hb1
    go_wp2_with fail
    refine (HD.out _).mono ?_; rintro e w2 ⟨rfl, hb2⟩
    replace hb2 := bstep hb1 hb2
    clear hc1 hf1 hb1
    obtain ⟨hc2, hf2⟩ := bcell hb2
    go_wp2_with fail
    refine (isSquare_any _ _ (by omega) hd1).mono ?_; rintro e w' ⟨rfl, rfl⟩
    have hB2 : Below w.heap.size w w2 := bfin (by go_grown) hb2
    go_wp2_with fail
    go_ret
    exact ⟨ret_bool (by simp; omega), by go_grown⟩
  · skip
    go_enter Try.func37, Try.ntmps37
    go_wp2_with fail
    refine (HD.out _).mono ?_; rintro e w1 ⟨rfl, hb1⟩
    obtain ⟨hc1, hf1⟩ := bcell hb1
    have hB1 : Below w.heap.size w w1 := bfin (by go_grown) hb1
    go_wp2_with fail
    go_ret
    exact ⟨ret_bool (by simp; omega), by go_grown⟩
theorem l05Indefinite_any (a b c : Int) (w : World) (h : Small a b c) :
    Calls Try.prog 77 #[(.agg #[.int .i64 a, .int .i64 b, .int .i64 c])] w fun e w' => e = .returned (.bool (indB a b c)) ∧ Below w.heap.size w w' := by
  have HD := Lib.hid (fun W => l05Disc_any a b c W h)
  have hdb : indB a b c = (decide (0 < disc a b c) && !sqB (disc a b c)) := rfl
  obtain ⟨_, hd1⟩ := disc_bd h
  rw [show (b * b - 4 * a * c : Int) = disc a b c from rfl] at HD
  generalize disc a b c = D at *
  rw [hdb]
  clear hdb
  by_cases h1 : 0 < D
  · skip
    go_enter Try.func77, Try.ntmps77
    go_wp2_with fail
    refine (HD.out _).mono ?_; rintro e w1 ⟨rfl, hb1⟩
    obtain ⟨hc1, hf1⟩ := bcell hb1
    go_wp2_with fail
    refine (l05Square_any _ _ (by omega) hd1).mono ?_; rintro e w' ⟨rfl, rfl⟩
    have hB1 : Below w.heap.size w w1 := bfin (by go_grown) hb1
    go_wp2_with fail
    go_ret
    exact ⟨ret_bool (by simp; omega), by go_grown⟩
  · skip
    go_enter Try.func77, Try.ntmps77
    go_wp2_with fail
    refine (HD.out _).mono ?_; rintro e w1 ⟨rfl, hb1⟩
    obtain ⟨hc1, hf1⟩ := bcell hb1
    have hB1 : Below w.heap.size w w1 := bfin (by go_grown) hb1
    go_wp2_with fail
    go_ret
    exact ⟨ret_bool (by simp; omega), by go_grown⟩
end Go.Proofs.Ytcaiofhdcffogaa
/- Contracts: reduced forms. -/
namespace Go.Proofs.Ytcaiofhdcffogaa
open Go.RowKit
theorem redB_def {a b c : Int} (h : defB a b c = true) : redB a b c = redDef a b c := by
  simp [defB] at h; unfold redB; rw [if_pos h]
theorem redB_ind {a b c : Int} (h : defB a b c = false) : redB a b c = redInd a b c := by
  unfold redB; rw [if_neg]; intro hh; simp [defB] at h; omega
structure RedBd (a b : Int) : Prop where
  b0 : 0 ≤ b * b
  b1 : b * b ≤ 1000000000000
  p0 : 0 ≤ (2 * (a.natAbs : Int) + b) * (2 * (a.natAbs : Int) + b)
  p1 : (2 * (a.natAbs : Int) + b) * (2 * (a.natAbs : Int) + b) ≤ 9000000000000
  q0 : 0 ≤ (2 * (a.natAbs : Int) - b) * (2 * (a.natAbs : Int) - b)
  q1 : (2 * (a.natAbs : Int) - b) * (2 * (a.natAbs : Int) - b) ≤ 9000000000000
theorem redBd {a b c : Int} (h : Small a b c) : RedBd a b := by
  obtain ⟨a0, a1, b0, b1, _, _⟩ := h
  have h1 := mul_bd b0 b1 b0 b1
  have h2 := mul_bd (a := 2 * (a.natAbs : Int) + b) (b := 2 * (a.natAbs : Int) + b) (A := 3000000) (B := 3000000) (by omega) (by omega) (by omega) (by omega)
  have h3 := mul_bd (a := 2 * (a.natAbs : Int) - b) (b := 2 * (a.natAbs : Int) - b) (A := 3000000) (B := 3000000) (by omega) (by omega) (by omega) (by omega)
  exact ⟨sq_nn _, by omega, sq_nn _, by omega, sq_nn _, by omega⟩

set_option maxRecDepth 100000 in
set_option maxHeartbeats 4000000 in
theorem isReduced_any (a b c : Int) (w : World) (h : Small a b c) :
    Calls Try.prog 38 #[(.agg #[.int .i64 a, .int .i64 b, .int .i64 c])] w fun e w' => e = .returned (.bool (redB a b c)) ∧ Below w.heap.size w w' := by
  obtain ⟨e1, e2, e3, e4, e5, e6⟩ := redBd h
  have ⟨a0, a1, b0, b1, c0, c1⟩ := h
  cases hd : defB a b c
  · rw [redB_ind hd]
    have HD := Lib.hid (fun W => disc_any a b c W h)
    obtain ⟨d0, d1⟩ := disc_bd h
    rw [show (b * b - 4 * a * c : Int) = disc a b c from rfl] at HD
    have hr : redInd a b c = decide (0 < b ∧ b * b < disc a b c ∧ disc a b c < (2 * (a.natAbs : Int) + b) * (2 * (a.natAbs : Int) + b) ∧ (2 * (a.natAbs : Int) < b ∨ (2 * (a.natAbs : Int) - b) * (2 * (a.natAbs : Int) - b) < disc a b c)) := rfl
    generalize disc a b c = D at *
    have HR := Lib.hid hr
    clear hr
    by_cases hc0 : 0 < b
    · skip
      by_cases hc1 : b * b < D
      · skip
        by_cases hc2 : D < (2 * (a.natAbs : Int) + b) * (2 * (a.natAbs : Int) + b)
        · skip
          by_cases hc3 : 2 * (a.natAbs : Int) < b
          · skip
            go_enter Try.func38, Try.ntmps38
            go_wp2_with fail
            refine wp_region_ext (by kernel_rfl) (by kernel_rfl) ?_
            repeat (go_big_quiet_step (fail))
            refine wpQuiet_nil ?_
            intro w1 hb1
            obtain ⟨hc1, hf1⟩ := bcell hb1
            have hz0 : w.heap.size < w1.heap.size := by have := hb1.size; (try simp at this); omega
            go_wp2_with fail
            refine (isDefinite_any _ _ _ _ h).mono ?_; rintro e w2 ⟨rfl, hb2⟩
            replace hb2 := bstep hb1 hb2
            clear hc1 hf1 hb1
            obtain ⟨hc2, hf2⟩ := bcell hb2
            have hz0 : w.heap.size < w2.heap.size := by have := hb2.size; (try simp at this); omega
            go_wp2_with fail
            refine (HD.out _).mono ?_; rintro e w3 ⟨rfl, hb3⟩
            replace hb3 := bstep hb2 hb3
            clear hc2 hf2 hb2
            obtain ⟨hc3, hf3⟩ := bcell hb3
            go_wp2_with fail
            refine (size_any _ _ (by omega) (by omega)).mono ?_; rintro e w' ⟨rfl, rfl⟩
            have hB3 : Below w.heap.size w w3 := bfin (by go_grown) hb3
            go_wp2_with fail
            go_ret
            exact ⟨ret_bool (by rw [HR.out]; first | (exact (decide_eq_true (by omega)).symm) | (exact (decide_eq_false (by omega)).symm) | (rw [Bool.eq_iff_iff]; simp; omega)), by go_grown⟩
          · skip
            by_cases hc4 : (2 * (a.natAbs : Int) - b) * (2 * (a.natAbs : Int) - b) < D
            · skip
              go_enter Try.func38, Try.ntmps38
              go_wp2_with fail
              refine wp_region_ext (by kernel_rfl) (by kernel_rfl) ?_
              repeat (go_big_quiet_step (fail))
              refine wpQuiet_nil ?_
              intro w1 hb1
              obtain ⟨hc1, hf1⟩ := bcell hb1
              have hz0 : w.heap.size < w1.heap.size := by have := hb1.size; (try simp at this); omega
              go_wp2_with fail
              refine (isDefinite_any _ _ _ _ h).mono ?_; rintro e w2 ⟨rfl, hb2⟩
              replace hb2 := bstep hb1 hb2
              clear hc1 hf1 hb1
              obtain ⟨hc2, hf2⟩ := bcell hb2
              have hz0 : w.heap.size < w2.heap.size := by have := hb2.size; (try simp at this); omega
              go_wp2_with fail
              refine (HD.out _).mono ?_; rintro e w3 ⟨rfl, hb3⟩
              replace hb3 := bstep hb2 hb3
              clear hc2 hf2 hb2
              obtain ⟨hc3, hf3⟩ := bcell hb3
              go_wp2_with fail
              refine (size_any _ _ (by omega) (by omega)).mono ?_; rintro e w' ⟨rfl, rfl⟩
              have hB3 : Below w.heap.size w w3 := bfin (by go_grown) hb3
              go_wp2_with fail
              go_ret
              exact ⟨ret_bool (by rw [HR.out]; first | (exact (decide_eq_true (by omega)).symm) | (exact (decide_eq_false (by omega)).symm) | (rw [Bool.eq_iff_iff]; simp; omega)), by go_grown⟩
            · skip
              go_enter Try.func38, Try.ntmps38
              go_wp2_with fail
              refine wp_region_ext (by kernel_rfl) (by kernel_rfl) ?_
              repeat (go_big_quiet_step (fail))
              refine wpQuiet_nil ?_
              intro w1 hb1
              obtain ⟨hc1, hf1⟩ := bcell hb1
              have hz0 : w.heap.size < w1.heap.size := by have := hb1.size; (try simp at this); omega
              go_wp2_with fail
              refine (isDefinite_any _ _ _ _ h).mono ?_; rintro e w2 ⟨rfl, hb2⟩
              replace hb2 := bstep hb1 hb2
              clear hc1 hf1 hb1
              obtain ⟨hc2, hf2⟩ := bcell hb2
              have hz0 : w.heap.size < w2.heap.size := by have := hb2.size; (try simp at this); omega
              go_wp2_with fail
              refine (HD.out _).mono ?_; rintro e w3 ⟨rfl, hb3⟩
              replace hb3 := bstep hb2 hb3
              clear hc2 hf2 hb2
              obtain ⟨hc3, hf3⟩ := bcell hb3
              go_wp2_with fail
              refine (size_any _ _ (by omega) (by omega)).mono ?_; rintro e w' ⟨rfl, rfl⟩
              have hB3 : Below w.heap.size w w3 := bfin (by go_grown) hb3
              go_wp2_with fail
              go_ret
              exact ⟨ret_bool (by rw [HR.out]; first | (exact (decide_eq_true (by omega)).symm) | (exact (decide_eq_false (by omega)).symm) | (rw [Bool.eq_iff_iff]; simp; omega)), by go_grown⟩
        · skip
          go_enter Try.func38, Try.ntmps38
          go_wp2_with fail
          refine wp_region_ext (by kernel_rfl) (by kernel_rfl) ?_
          repeat (go_big_quiet_step (fail))
          refine wpQuiet_nil ?_
          intro w1 hb1
          obtain ⟨hc1, hf1⟩ := bcell hb1
          have hz0 : w.heap.size < w1.heap.size := by have := hb1.size; (try simp at this); omega
          go_wp2_with fail
          refine (isDefinite_any _ _ _ _ h).mono ?_; rintro e w2 ⟨rfl, hb2⟩
          replace hb2 := bstep hb1 hb2
          clear hc1 hf1 hb1
          obtain ⟨hc2, hf2⟩ := bcell hb2
          have hz0 : w.heap.size < w2.heap.size := by have := hb2.size; (try simp at this); omega
          go_wp2_with fail
          refine (HD.out _).mono ?_; rintro e w3 ⟨rfl, hb3⟩
          replace hb3 := bstep hb2 hb3
          clear hc2 hf2 hb2
          obtain ⟨hc3, hf3⟩ := bcell hb3
          go_wp2_with fail
          refine (size_any _ _ (by omega) (by omega)).mono ?_; rintro e w' ⟨rfl, rfl⟩
          have hB3 : Below w.heap.size w w3 := bfin (by go_grown) hb3
          go_wp2_with fail
          go_ret
          exact ⟨ret_bool (by rw [HR.out]; first | (exact (decide_eq_true (by omega)).symm) | (exact (decide_eq_false (by omega)).symm) | (rw [Bool.eq_iff_iff]; simp; omega)), by go_grown⟩
      · skip
        go_enter Try.func38, Try.ntmps38
        go_wp2_with fail
        refine wp_region_ext (by kernel_rfl) (by kernel_rfl) ?_
        repeat (go_big_quiet_step (fail))
        refine wpQuiet_nil ?_
        intro w1 hb1
        obtain ⟨hc1, hf1⟩ := bcell hb1
        have hz0 : w.heap.size < w1.heap.size := by have := hb1.size; (try simp at this); omega
        go_wp2_with fail
        refine (isDefinite_any _ _ _ _ h).mono ?_; rintro e w2 ⟨rfl, hb2⟩
        replace hb2 := bstep hb1 hb2
        clear hc1 hf1 hb1
        obtain ⟨hc2, hf2⟩ := bcell hb2
        have hz0 : w.heap.size < w2.heap.size := by have := hb2.size; (try simp at this); omega
        go_wp2_with fail
        refine (HD.out _).mono ?_; rintro e w3 ⟨rfl, hb3⟩
        replace hb3 := bstep hb2 hb3
        clear hc2 hf2 hb2
        obtain ⟨hc3, hf3⟩ := bcell hb3
        go_wp2_with fail
        refine (size_any _ _ (by omega) (by omega)).mono ?_; rintro e w' ⟨rfl, rfl⟩
        have hB3 : Below w.heap.size w w3 := bfin (by go_grown) hb3
        go_wp2_with fail
        go_ret
        exact ⟨ret_bool (by rw [HR.out]; first | (exact (decide_eq_true (by omega)).symm) | (exact (decide_eq_false (by omega)).symm) | (rw [Bool.eq_iff_iff]; simp; omega)), by go_grown⟩
    · skip
      go_enter Try.func38, Try.ntmps38
      go_wp2_with fail
      refine wp_region_ext (by kernel_rfl) (by kernel_rfl) ?_
      repeat (go_big_quiet_step (fail))
      refine wpQuiet_nil ?_
      intro w1 hb1
      obtain ⟨hc1, hf1⟩ := bcell hb1
      have hz0 : w.heap.size < w1.heap.size := by have := hb1.size; (try simp at this); omega
      go_wp2_with fail
      refine (isDefinite_any _ _ _ _ h).mono ?_; rintro e w2 ⟨rfl, hb2⟩
      replace hb2 := bstep hb1 hb2
      clear hc1 hf1 hb1
      obtain ⟨hc2, hf2⟩ := bcell hb2
      have hz0 : w.heap.size < w2.heap.size := by have := hb2.size; (try simp at this); omega
      go_wp2_with fail
      refine (HD.out _).mono ?_; rintro e w3 ⟨rfl, hb3⟩
      replace hb3 := bstep hb2 hb3
      clear hc2 hf2 hb2
      obtain ⟨hc3, hf3⟩ := bcell hb3
      go_wp2_with fail
      refine (size_any _ _ (by omega) (by omega)).mono ?_; rintro e w' ⟨rfl, rfl⟩
      have hB3 : Below w.heap.size w w3 := bfin (by go_grown) hb3
      go_wp2_with fail
      go_ret
      exact ⟨ret_bool (by rw [HR.out]; first | (exact (decide_eq_true (by omega)).symm) | (exact (decide_eq_false (by omega)).symm) | (rw [Bool.eq_iff_iff]; simp; omega)), by go_grown⟩
  · rw [redB_def hd]
    by_cases hc5 : (b.natAbs : Int) ≤ a
    · skip
      by_cases hc6 : a ≤ c
      · skip
        by_cases hc7 : 0 ≤ b
        · skip
          go_enter Try.func38, Try.ntmps38
          go_wp2_with fail
          refine wp_region_ext (by kernel_rfl) (by kernel_rfl) ?_
          repeat (go_big_quiet_step (fail))
          refine wpQuiet_nil ?_
          intro w1 hb1
          obtain ⟨hc1, hf1⟩ := bcell hb1
          have hz0 : w.heap.size < w1.heap.size := by have := hb1.size; (try simp at this); omega
          go_wp2_with fail
          refine (isDefinite_any _ _ _ _ h).mono ?_; rintro e w2 ⟨rfl, hb2⟩
          replace hb2 := bstep hb1 hb2
          clear hc1 hf1 hb1
          obtain ⟨hc2, hf2⟩ := bcell hb2
          have hz0 : w.heap.size < w2.heap.size := by have := hb2.size; (try simp at this); omega
          go_wp2_with fail
          refine (size_any _ _ (by omega) (by omega)).mono ?_; rintro e w' ⟨rfl, rfl⟩
          have hB2 : Below w.heap.size w w2 := bfin (by go_grown) hb2
          go_wp2_with fail
          go_ret
          exact ⟨ret_bool (by unfold redDef; (try have qa := HQA.out); (try have qb := HQB.out); first | (exact (decide_eq_true (by omega)).symm) | (exact (decide_eq_false (by omega)).symm) | (rw [Bool.eq_iff_iff]; simp; omega)), by go_grown⟩
        · skip
          by_cases hc8 : -b = a
          · skip
            have hc8b : (-b != a) = false := by simp; omega
            have HQA := Lib.hid hc8
            clear hc8
            go_enter Try.func38, Try.ntmps38
            go_wp2_with fail
            refine wp_region_ext (by kernel_rfl) (by kernel_rfl) ?_
            repeat (go_big_quiet_step (fail))
            refine wpQuiet_nil ?_
            intro w1 hb1
            obtain ⟨hc1, hf1⟩ := bcell hb1
            have hz0 : w.heap.size < w1.heap.size := by have := hb1.size; (try simp at this); omega
            go_wp2_with fail
            refine (isDefinite_any _ _ _ _ h).mono ?_; rintro e w2 ⟨rfl, hb2⟩
            replace hb2 := bstep hb1 hb2
            clear hc1 hf1 hb1
            obtain ⟨hc2, hf2⟩ := bcell hb2
            have hz0 : w.heap.size < w2.heap.size := by have := hb2.size; (try simp at this); omega
            go_wp2_with fail
            refine (size_any _ _ (by omega) (by omega)).mono ?_; rintro e w' ⟨rfl, rfl⟩
            have hB2 : Below w.heap.size w w2 := bfin (by go_grown) hb2
            go_wp2_with fail
            go_ret
            exact ⟨ret_bool (by unfold redDef; (try have qa := HQA.out); (try have qb := HQB.out); first | (exact (decide_eq_true (by omega)).symm) | (exact (decide_eq_false (by omega)).symm) | (rw [Bool.eq_iff_iff]; simp; omega)), by go_grown⟩
          · skip
            have hc8b : (-b != a) = true := by simp; omega
            have HQA := Lib.hid hc8
            clear hc8
            by_cases hc9 : a = c
            · skip
              have hc9b : (a != c) = false := by simp; omega
              have HQB := Lib.hid hc9
              clear hc9
              go_enter Try.func38, Try.ntmps38
              go_wp2_with fail
              refine wp_region_ext (by kernel_rfl) (by kernel_rfl) ?_
              repeat (go_big_quiet_step (fail))
              refine wpQuiet_nil ?_
              intro w1 hb1
              obtain ⟨hc1, hf1⟩ := bcell hb1
              have hz0 : w.heap.size < w1.heap.size := by have := hb1.size; (try simp at this); omega
              go_wp2_with fail
              refine (isDefinite_any _ _ _ _ h).mono ?_; rintro e w2 ⟨rfl, hb2⟩
              replace hb2 := bstep hb1 hb2
              clear hc1 hf1 hb1
              obtain ⟨hc2, hf2⟩ := bcell hb2
              have hz0 : w.heap.size < w2.heap.size := by have := hb2.size; (try simp at this); omega
              go_wp2_with fail
              refine (size_any _ _ (by omega) (by omega)).mono ?_; rintro e w' ⟨rfl, rfl⟩
              have hB2 : Below w.heap.size w w2 := bfin (by go_grown) hb2
              go_wp2_with fail
              go_ret
              exact ⟨ret_bool (by unfold redDef; (try have qa := HQA.out); (try have qb := HQB.out); first | (exact (decide_eq_true (by omega)).symm) | (exact (decide_eq_false (by omega)).symm) | (rw [Bool.eq_iff_iff]; simp; omega)), by go_grown⟩
            · skip
              have hc9b : (a != c) = true := by simp; omega
              have HQB := Lib.hid hc9
              clear hc9
              go_enter Try.func38, Try.ntmps38
              go_wp2_with fail
              refine wp_region_ext (by kernel_rfl) (by kernel_rfl) ?_
              repeat (go_big_quiet_step (fail))
              refine wpQuiet_nil ?_
              intro w1 hb1
              obtain ⟨hc1, hf1⟩ := bcell hb1
              have hz0 : w.heap.size < w1.heap.size := by have := hb1.size; (try simp at this); omega
              go_wp2_with fail
              refine (isDefinite_any _ _ _ _ h).mono ?_; rintro e w2 ⟨rfl, hb2⟩
              replace hb2 := bstep hb1 hb2
              clear hc1 hf1 hb1
              obtain ⟨hc2, hf2⟩ := bcell hb2
              have hz0 : w.heap.size < w2.heap.size := by have := hb2.size; (try simp at this); omega
              go_wp2_with fail
              refine (size_any _ _ (by omega) (by omega)).mono ?_; rintro e w' ⟨rfl, rfl⟩
              have hB2 : Below w.heap.size w w2 := bfin (by go_grown) hb2
              go_wp2_with fail
              go_ret
              exact ⟨ret_bool (by unfold redDef; (try have qa := HQA.out); (try have qb := HQB.out); first | (exact (decide_eq_true (by omega)).symm) | (exact (decide_eq_false (by omega)).symm) | (rw [Bool.eq_iff_iff]; simp; omega)), by go_grown⟩
      · skip
        go_enter Try.func38, Try.ntmps38
        go_wp2_with fail
        refine wp_region_ext (by kernel_rfl) (by kernel_rfl) ?_
        repeat (go_big_quiet_step (fail))
        refine wpQuiet_nil ?_
        intro w1 hb1
        obtain ⟨hc1, hf1⟩ := bcell hb1
        have hz0 : w.heap.size < w1.heap.size := by have := hb1.size; (try simp at this); omega
        go_wp2_with fail
        refine (isDefinite_any _ _ _ _ h).mono ?_; rintro e w2 ⟨rfl, hb2⟩
        replace hb2 := bstep hb1 hb2
        clear hc1 hf1 hb1
        obtain ⟨hc2, hf2⟩ := bcell hb2
        have hz0 : w.heap.size < w2.heap.size := by have := hb2.size; (try simp at this); omega
        go_wp2_with fail
        refine (size_any _ _ (by omega) (by omega)).mono ?_; rintro e w' ⟨rfl, rfl⟩
        have hB2 : Below w.heap.size w w2 := bfin (by go_grown) hb2
        go_wp2_with fail
        go_ret
        exact ⟨ret_bool (by unfold redDef; (try have qa := HQA.out); (try have qb := HQB.out); first | (exact (decide_eq_true (by omega)).symm) | (exact (decide_eq_false (by omega)).symm) | (rw [Bool.eq_iff_iff]; simp; omega)), by go_grown⟩
    · skip
      go_enter Try.func38, Try.ntmps38
      go_wp2_with fail
      refine wp_region_ext (by kernel_rfl) (by kernel_rfl) ?_
      repeat (go_big_quiet_step (fail))
      refine wpQuiet_nil ?_
      intro w1 hb1
      obtain ⟨hc1, hf1⟩ := bcell hb1
      have hz0 : w.heap.size < w1.heap.size := by have := hb1.size; (try simp at this); omega
      go_wp2_with fail
      refine (isDefinite_any _ _ _ _ h).mono ?_; rintro e w2 ⟨rfl, hb2⟩
      replace hb2 := bstep hb1 hb2
      clear hc1 hf1 hb1
      obtain ⟨hc2, hf2⟩ := bcell hb2
      have hz0 : w.heap.size < w2.heap.size := by have := hb2.size; (try simp at this); omega
      go_wp2_with fail
      refine (size_any _ _ (by omega) (by omega)).mono ?_; rintro e w' ⟨rfl, rfl⟩
      have hB2 : Below w.heap.size w w2 := bfin (by go_grown) hb2
      go_wp2_with fail
      go_ret
      exact ⟨ret_bool (by unfold redDef; (try have qa := HQA.out); (try have qb := HQB.out); first | (exact (decide_eq_true (by omega)).symm) | (exact (decide_eq_false (by omega)).symm) | (rw [Bool.eq_iff_iff]; simp; omega)), by go_grown⟩

set_option maxRecDepth 100000 in
set_option maxHeartbeats 8000000 in
theorem l05Reduced_any (a b c : Int) (w : World) (h : Small a b c) :
    Calls Try.prog 76 #[(.agg #[.int .i64 a, .int .i64 b, .int .i64 c])] w fun e w' => e = .returned (.bool (redB a b c)) ∧ Below w.heap.size w w' := by
  obtain ⟨e1, e2, e3, e4, e5, e6⟩ := redBd h
  have ⟨a0, a1, b0, b1, c0, c1⟩ := h
  have HD := Lib.hid (fun W => l05Disc_any a b c W h)
  obtain ⟨d0, d1⟩ := disc_bd h
  have hdz : a = 0 → b = 0 → disc a b c = 0 := by intro h1 h2; subst h1; subst h2; simp [disc]
  rw [show (b * b - 4 * a * c : Int) = disc a b c from rfl] at HD
  have hr : redInd a b c = decide (0 < b ∧ b * b < disc a b c ∧ disc a b c < (2 * (a.natAbs : Int) + b) * (2 * (a.natAbs : Int) + b) ∧ (2 * (a.natAbs : Int) < b ∨ (2 * (a.natAbs : Int) - b) * (2 * (a.natAbs : Int) - b) < disc a b c)) := rfl
  have hdd : defB a b c = (decide (disc a b c < 0) && decide (0 < a)) := rfl
  by_cases hneg : disc a b c < 0
  · by_cases hpa : 0 < a
    · rw [redB_def (show defB a b c = true by rw [hdd]; simp; omega)]
      clear hdd hdz hr
      generalize disc a b c = D at *
      by_cases hc10 : 0 ≤ b
      · skip
        by_cases hc11 : b ≤ a
        · skip
          by_cases hc12 : a ≤ c
          · skip
            go_enter Try.func76, Try.ntmps76
            go_wp2_with fail
            refine wp_region_ext (by kernel_rfl) (by kernel_rfl) ?_
            repeat (go_big_quiet_step (((go_at_call 42; refine Calls.ext_of (Nat.le_refl _) (HD.out _)))))
            refine wpQuiet_nil ?_
            intro w1 hb1
            obtain ⟨hc1, hf1⟩ := bcell hb1
            have hB : Below w.heap.size w w1 := bfin (by go_grown) hb1
            go_wp2_with fail
            all_goals first | (exfalso; omega) | (go_ret; exact ⟨ret_bool (by unfold redDef; (try have qa := HQA.out); (try have qb := HQB.out); first | (exact (decide_eq_true (by omega)).symm) | (exact (decide_eq_false (by omega)).symm) | (rw [Bool.eq_iff_iff]; simp; omega)), hB⟩)
          · skip
            go_enter Try.func76, Try.ntmps76
            go_wp2_with fail
            refine wp_region_ext (by kernel_rfl) (by kernel_rfl) ?_
            repeat (go_big_quiet_step (((go_at_call 42; refine Calls.ext_of (Nat.le_refl _) (HD.out _)))))
            refine wpQuiet_nil ?_
            intro w1 hb1
            obtain ⟨hc1, hf1⟩ := bcell hb1
            have hB : Below w.heap.size w w1 := bfin (by go_grown) hb1
            go_wp2_with fail
            all_goals first | (exfalso; omega) | (go_ret; exact ⟨ret_bool (by unfold redDef; (try have qa := HQA.out); (try have qb := HQB.out); first | (exact (decide_eq_true (by omega)).symm) | (exact (decide_eq_false (by omega)).symm) | (rw [Bool.eq_iff_iff]; simp; omega)), hB⟩)
        · skip
          go_enter Try.func76, Try.ntmps76
          go_wp2_with fail
          refine wp_region_ext (by kernel_rfl) (by kernel_rfl) ?_
          repeat (go_big_quiet_step (((go_at_call 42; refine Calls.ext_of (Nat.le_refl _) (HD.out _)))))
          refine wpQuiet_nil ?_
          intro w1 hb1
          obtain ⟨hc1, hf1⟩ := bcell hb1
          have hB : Below w.heap.size w w1 := bfin (by go_grown) hb1
          go_wp2_with fail
          all_goals first | (exfalso; omega) | (go_ret; exact ⟨ret_bool (by unfold redDef; (try have qa := HQA.out); (try have qb := HQB.out); first | (exact (decide_eq_true (by omega)).symm) | (exact (decide_eq_false (by omega)).symm) | (rw [Bool.eq_iff_iff]; simp; omega)), hB⟩)
      · skip
        by_cases hc13 : -b ≤ a
        · skip
          by_cases hc14 : a ≤ c
          · skip
            by_cases hc15 : -b < a
            · skip
              by_cases hc16 : a < c
              · skip
                go_enter Try.func76, Try.ntmps76
                go_wp2_with fail
                refine wp_region_ext (by kernel_rfl) (by kernel_rfl) ?_
                repeat (go_big_quiet_step (((go_at_call 42; refine Calls.ext_of (Nat.le_refl _) (HD.out _)))))
                refine wpQuiet_nil ?_
                intro w1 hb1
                obtain ⟨hc1, hf1⟩ := bcell hb1
                have hB : Below w.heap.size w w1 := bfin (by go_grown) hb1
                go_wp2_with fail
                all_goals first | (exfalso; omega) | (go_ret; exact ⟨ret_bool (by unfold redDef; (try have qa := HQA.out); (try have qb := HQB.out); first | (exact (decide_eq_true (by omega)).symm) | (exact (decide_eq_false (by omega)).symm) | (rw [Bool.eq_iff_iff]; simp; omega)), hB⟩)
              · skip
                go_enter Try.func76, Try.ntmps76
                go_wp2_with fail
                refine wp_region_ext (by kernel_rfl) (by kernel_rfl) ?_
                repeat (go_big_quiet_step (((go_at_call 42; refine Calls.ext_of (Nat.le_refl _) (HD.out _)))))
                refine wpQuiet_nil ?_
                intro w1 hb1
                obtain ⟨hc1, hf1⟩ := bcell hb1
                have hB : Below w.heap.size w w1 := bfin (by go_grown) hb1
                go_wp2_with fail
                all_goals first | (exfalso; omega) | (go_ret; exact ⟨ret_bool (by unfold redDef; (try have qa := HQA.out); (try have qb := HQB.out); first | (exact (decide_eq_true (by omega)).symm) | (exact (decide_eq_false (by omega)).symm) | (rw [Bool.eq_iff_iff]; simp; omega)), hB⟩)
            · skip
              go_enter Try.func76, Try.ntmps76
              go_wp2_with fail
              refine wp_region_ext (by kernel_rfl) (by kernel_rfl) ?_
              repeat (go_big_quiet_step (((go_at_call 42; refine Calls.ext_of (Nat.le_refl _) (HD.out _)))))
              refine wpQuiet_nil ?_
              intro w1 hb1
              obtain ⟨hc1, hf1⟩ := bcell hb1
              have hB : Below w.heap.size w w1 := bfin (by go_grown) hb1
              go_wp2_with fail
              all_goals first | (exfalso; omega) | (go_ret; exact ⟨ret_bool (by unfold redDef; (try have qa := HQA.out); (try have qb := HQB.out); first | (exact (decide_eq_true (by omega)).symm) | (exact (decide_eq_false (by omega)).symm) | (rw [Bool.eq_iff_iff]; simp; omega)), hB⟩)
          · skip
            go_enter Try.func76, Try.ntmps76
            go_wp2_with fail
            refine wp_region_ext (by kernel_rfl) (by kernel_rfl) ?_
            repeat (go_big_quiet_step (((go_at_call 42; refine Calls.ext_of (Nat.le_refl _) (HD.out _)))))
            refine wpQuiet_nil ?_
            intro w1 hb1
            obtain ⟨hc1, hf1⟩ := bcell hb1
            have hB : Below w.heap.size w w1 := bfin (by go_grown) hb1
            go_wp2_with fail
            all_goals first | (exfalso; omega) | (go_ret; exact ⟨ret_bool (by unfold redDef; (try have qa := HQA.out); (try have qb := HQB.out); first | (exact (decide_eq_true (by omega)).symm) | (exact (decide_eq_false (by omega)).symm) | (rw [Bool.eq_iff_iff]; simp; omega)), hB⟩)
        · skip
          go_enter Try.func76, Try.ntmps76
          go_wp2_with fail
          refine wp_region_ext (by kernel_rfl) (by kernel_rfl) ?_
          repeat (go_big_quiet_step (((go_at_call 42; refine Calls.ext_of (Nat.le_refl _) (HD.out _)))))
          refine wpQuiet_nil ?_
          intro w1 hb1
          obtain ⟨hc1, hf1⟩ := bcell hb1
          have hB : Below w.heap.size w w1 := bfin (by go_grown) hb1
          go_wp2_with fail
          all_goals first | (exfalso; omega) | (go_ret; exact ⟨ret_bool (by unfold redDef; (try have qa := HQA.out); (try have qb := HQB.out); first | (exact (decide_eq_true (by omega)).symm) | (exact (decide_eq_false (by omega)).symm) | (rw [Bool.eq_iff_iff]; simp; omega)), hB⟩)
    · rw [redB_ind (show defB a b c = false by rw [hdd]; simp; omega)]
      clear hdd
      have hab : ¬ ((b.natAbs : Int) ≤ a) := fun hh => by
        have h1 := hdz (by omega) (by omega)
        omega
      clear hdz
      have HR := Lib.hid hr
      clear hr
      generalize disc a b c = D at *
      by_cases hb : 0 ≤ b
      · skip
        go_enter Try.func76, Try.ntmps76
        go_wp2_with fail
        refine wp_region_ext (by kernel_rfl) (by kernel_rfl) ?_
        repeat (go_big_quiet_step (((go_at_call 42; refine Calls.ext_of (Nat.le_refl _) (HD.out _)))))
        refine wpQuiet_nil ?_
        intro w1 hb1
        obtain ⟨hc1, hf1⟩ := bcell hb1
        have hB : Below w.heap.size w w1 := bfin (by go_grown) hb1
        go_wp2_with fail
        all_goals first | (exfalso; omega) | (go_ret; exact ⟨ret_bool (by rw [HR.out]; first | (exact (decide_eq_true (by omega)).symm) | (exact (decide_eq_false (by omega)).symm) | (rw [Bool.eq_iff_iff]; simp; omega)), hB⟩)
      · skip
        go_enter Try.func76, Try.ntmps76
        go_wp2_with fail
        refine wp_region_ext (by kernel_rfl) (by kernel_rfl) ?_
        repeat (go_big_quiet_step (((go_at_call 42; refine Calls.ext_of (Nat.le_refl _) (HD.out _)))))
        refine wpQuiet_nil ?_
        intro w1 hb1
        obtain ⟨hc1, hf1⟩ := bcell hb1
        have hB : Below w.heap.size w w1 := bfin (by go_grown) hb1
        go_wp2_with fail
        all_goals first | (exfalso; omega) | (go_ret; exact ⟨ret_bool (by rw [HR.out]; first | (exact (decide_eq_true (by omega)).symm) | (exact (decide_eq_false (by omega)).symm) | (rw [Bool.eq_iff_iff]; simp; omega)), hB⟩)
  · rw [redB_ind (show defB a b c = false by rw [hdd]; simp; omega)]
    clear hdd hdz
    generalize disc a b c = D at *
    by_cases hsa : 0 ≤ a
    · have hna : (a.natAbs : Int) = a := by omega
      rw [hna] at hr e3 e4 e5 e6
      clear hna
      have HR := Lib.hid hr
      clear hr
      by_cases hc17 : 0 < b
      · skip
        by_cases hc18 : b * b < D
        · skip
          by_cases hc19 : D < (2 * a + b) * (2 * a + b)
          · skip
            by_cases hc20 : 2 * a < b
            · skip
              go_enter Try.func76, Try.ntmps76
              go_wp2_with fail
              refine wp_region_ext (by kernel_rfl) (by kernel_rfl) ?_
              repeat (go_big_quiet_step (((go_at_call 42; refine Calls.ext_of (Nat.le_refl _) (HD.out _)))))
              refine wpQuiet_nil ?_
              intro w1 hb1
              obtain ⟨hc1, hf1⟩ := bcell hb1
              have hB : Below w.heap.size w w1 := bfin (by go_grown) hb1
              go_wp2_with fail
              all_goals first | (exfalso; omega) | (go_ret; exact ⟨ret_bool (by rw [HR.out]; first | (exact (decide_eq_true (by omega)).symm) | (exact (decide_eq_false (by omega)).symm) | (rw [Bool.eq_iff_iff]; simp; omega)), hB⟩)
            · skip
              by_cases hc21 : (2 * a - b) * (2 * a - b) < D
              · skip
                go_enter Try.func76, Try.ntmps76
                go_wp2_with fail
                refine wp_region_ext (by kernel_rfl) (by kernel_rfl) ?_
                repeat (go_big_quiet_step (((go_at_call 42; refine Calls.ext_of (Nat.le_refl _) (HD.out _)))))
                refine wpQuiet_nil ?_
                intro w1 hb1
                obtain ⟨hc1, hf1⟩ := bcell hb1
                have hB : Below w.heap.size w w1 := bfin (by go_grown) hb1
                go_wp2_with fail
                all_goals first | (exfalso; omega) | (go_ret; exact ⟨ret_bool (by rw [HR.out]; first | (exact (decide_eq_true (by omega)).symm) | (exact (decide_eq_false (by omega)).symm) | (rw [Bool.eq_iff_iff]; simp; omega)), hB⟩)
              · skip
                go_enter Try.func76, Try.ntmps76
                go_wp2_with fail
                refine wp_region_ext (by kernel_rfl) (by kernel_rfl) ?_
                repeat (go_big_quiet_step (((go_at_call 42; refine Calls.ext_of (Nat.le_refl _) (HD.out _)))))
                refine wpQuiet_nil ?_
                intro w1 hb1
                obtain ⟨hc1, hf1⟩ := bcell hb1
                have hB : Below w.heap.size w w1 := bfin (by go_grown) hb1
                go_wp2_with fail
                all_goals first | (exfalso; omega) | (go_ret; exact ⟨ret_bool (by rw [HR.out]; first | (exact (decide_eq_true (by omega)).symm) | (exact (decide_eq_false (by omega)).symm) | (rw [Bool.eq_iff_iff]; simp; omega)), hB⟩)
          · skip
            go_enter Try.func76, Try.ntmps76
            go_wp2_with fail
            refine wp_region_ext (by kernel_rfl) (by kernel_rfl) ?_
            repeat (go_big_quiet_step (((go_at_call 42; refine Calls.ext_of (Nat.le_refl _) (HD.out _)))))
            refine wpQuiet_nil ?_
            intro w1 hb1
            obtain ⟨hc1, hf1⟩ := bcell hb1
            have hB : Below w.heap.size w w1 := bfin (by go_grown) hb1
            go_wp2_with fail
            all_goals first | (exfalso; omega) | (go_ret; exact ⟨ret_bool (by rw [HR.out]; first | (exact (decide_eq_true (by omega)).symm) | (exact (decide_eq_false (by omega)).symm) | (rw [Bool.eq_iff_iff]; simp; omega)), hB⟩)
        · skip
          go_enter Try.func76, Try.ntmps76
          go_wp2_with fail
          refine wp_region_ext (by kernel_rfl) (by kernel_rfl) ?_
          repeat (go_big_quiet_step (((go_at_call 42; refine Calls.ext_of (Nat.le_refl _) (HD.out _)))))
          refine wpQuiet_nil ?_
          intro w1 hb1
          obtain ⟨hc1, hf1⟩ := bcell hb1
          have hB : Below w.heap.size w w1 := bfin (by go_grown) hb1
          go_wp2_with fail
          all_goals first | (exfalso; omega) | (go_ret; exact ⟨ret_bool (by rw [HR.out]; first | (exact (decide_eq_true (by omega)).symm) | (exact (decide_eq_false (by omega)).symm) | (rw [Bool.eq_iff_iff]; simp; omega)), hB⟩)
      · skip
        go_enter Try.func76, Try.ntmps76
        go_wp2_with fail
        refine wp_region_ext (by kernel_rfl) (by kernel_rfl) ?_
        repeat (go_big_quiet_step (((go_at_call 42; refine Calls.ext_of (Nat.le_refl _) (HD.out _)))))
        refine wpQuiet_nil ?_
        intro w1 hb1
        obtain ⟨hc1, hf1⟩ := bcell hb1
        have hB : Below w.heap.size w w1 := bfin (by go_grown) hb1
        go_wp2_with fail
        all_goals first | (exfalso; omega) | (go_ret; exact ⟨ret_bool (by rw [HR.out]; first | (exact (decide_eq_true (by omega)).symm) | (exact (decide_eq_false (by omega)).symm) | (rw [Bool.eq_iff_iff]; simp; omega)), hB⟩)
    · have hna : (a.natAbs : Int) = -a := by omega
      rw [hna] at hr e3 e4 e5 e6
      clear hna
      have HR := Lib.hid hr
      clear hr
      by_cases hc22 : 0 < b
      · skip
        by_cases hc23 : b * b < D
        · skip
          by_cases hc24 : D < (2 * -a + b) * (2 * -a + b)
          · skip
            by_cases hc25 : 2 * -a < b
            · skip
              go_enter Try.func76, Try.ntmps76
              go_wp2_with fail
              refine wp_region_ext (by kernel_rfl) (by kernel_rfl) ?_
              repeat (go_big_quiet_step (((go_at_call 42; refine Calls.ext_of (Nat.le_refl _) (HD.out _)))))
              refine wpQuiet_nil ?_
              intro w1 hb1
              obtain ⟨hc1, hf1⟩ := bcell hb1
              have hB : Below w.heap.size w w1 := bfin (by go_grown) hb1
              go_wp2_with fail
              all_goals first | (exfalso; omega) | (go_ret; exact ⟨ret_bool (by rw [HR.out]; first | (exact (decide_eq_true (by omega)).symm) | (exact (decide_eq_false (by omega)).symm) | (rw [Bool.eq_iff_iff]; simp; omega)), hB⟩)
            · skip
              by_cases hc26 : (2 * -a - b) * (2 * -a - b) < D
              · skip
                go_enter Try.func76, Try.ntmps76
                go_wp2_with fail
                refine wp_region_ext (by kernel_rfl) (by kernel_rfl) ?_
                repeat (go_big_quiet_step (((go_at_call 42; refine Calls.ext_of (Nat.le_refl _) (HD.out _)))))
                refine wpQuiet_nil ?_
                intro w1 hb1
                obtain ⟨hc1, hf1⟩ := bcell hb1
                have hB : Below w.heap.size w w1 := bfin (by go_grown) hb1
                go_wp2_with fail
                all_goals first | (exfalso; omega) | (go_ret; exact ⟨ret_bool (by rw [HR.out]; first | (exact (decide_eq_true (by omega)).symm) | (exact (decide_eq_false (by omega)).symm) | (rw [Bool.eq_iff_iff]; simp; omega)), hB⟩)
              · skip
                go_enter Try.func76, Try.ntmps76
                go_wp2_with fail
                refine wp_region_ext (by kernel_rfl) (by kernel_rfl) ?_
                repeat (go_big_quiet_step (((go_at_call 42; refine Calls.ext_of (Nat.le_refl _) (HD.out _)))))
                refine wpQuiet_nil ?_
                intro w1 hb1
                obtain ⟨hc1, hf1⟩ := bcell hb1
                have hB : Below w.heap.size w w1 := bfin (by go_grown) hb1
                go_wp2_with fail
                all_goals first | (exfalso; omega) | (go_ret; exact ⟨ret_bool (by rw [HR.out]; first | (exact (decide_eq_true (by omega)).symm) | (exact (decide_eq_false (by omega)).symm) | (rw [Bool.eq_iff_iff]; simp; omega)), hB⟩)
          · skip
            go_enter Try.func76, Try.ntmps76
            go_wp2_with fail
            refine wp_region_ext (by kernel_rfl) (by kernel_rfl) ?_
            repeat (go_big_quiet_step (((go_at_call 42; refine Calls.ext_of (Nat.le_refl _) (HD.out _)))))
            refine wpQuiet_nil ?_
            intro w1 hb1
            obtain ⟨hc1, hf1⟩ := bcell hb1
            have hB : Below w.heap.size w w1 := bfin (by go_grown) hb1
            go_wp2_with fail
            all_goals first | (exfalso; omega) | (go_ret; exact ⟨ret_bool (by rw [HR.out]; first | (exact (decide_eq_true (by omega)).symm) | (exact (decide_eq_false (by omega)).symm) | (rw [Bool.eq_iff_iff]; simp; omega)), hB⟩)
        · skip
          go_enter Try.func76, Try.ntmps76
          go_wp2_with fail
          refine wp_region_ext (by kernel_rfl) (by kernel_rfl) ?_
          repeat (go_big_quiet_step (((go_at_call 42; refine Calls.ext_of (Nat.le_refl _) (HD.out _)))))
          refine wpQuiet_nil ?_
          intro w1 hb1
          obtain ⟨hc1, hf1⟩ := bcell hb1
          have hB : Below w.heap.size w w1 := bfin (by go_grown) hb1
          go_wp2_with fail
          all_goals first | (exfalso; omega) | (go_ret; exact ⟨ret_bool (by rw [HR.out]; first | (exact (decide_eq_true (by omega)).symm) | (exact (decide_eq_false (by omega)).symm) | (rw [Bool.eq_iff_iff]; simp; omega)), hB⟩)
      · skip
        go_enter Try.func76, Try.ntmps76
        go_wp2_with fail
        refine wp_region_ext (by kernel_rfl) (by kernel_rfl) ?_
        repeat (go_big_quiet_step (((go_at_call 42; refine Calls.ext_of (Nat.le_refl _) (HD.out _)))))
        refine wpQuiet_nil ?_
        intro w1 hb1
        obtain ⟨hc1, hf1⟩ := bcell hb1
        have hB : Below w.heap.size w w1 := bfin (by go_grown) hb1
        go_wp2_with fail
        all_goals first | (exfalso; omega) | (go_ret; exact ⟨ret_bool (by rw [HR.out]; first | (exact (decide_eq_true (by omega)).symm) | (exact (decide_eq_false (by omega)).symm) | (rw [Bool.eq_iff_iff]; simp; omega)), hB⟩)

end Go.Proofs.Ytcaiofhdcffogaa
/- Contracts: is a form reduced; the law. -/
namespace Go.Proofs.Ytcaiofhdcffogaa
open Go.RowKit
def isRed (a b c : Int) : Bool × Int := if isForm a b c = true then (if defB a b c = true ∨ indB a b c = true then (redB a b c, 0) else (false, 5)) else (false, 1)
theorem IsReducedForm_any (a b c : Int) (w : World) :
    Calls Try.prog 11 #[(.agg #[.int .i64 a, .int .i64 b, .int .i64 c])] w fun e w' => e = .returned (.tuple #[.bool (isRed a b c).1, (.int .i64 ((isRed a b c).2))]) ∧ Below w.heap.size w w' := by
  cases hF : isForm a b c
  · rw [show isRed a b c = (false, 1) by simp [isRed, hF]]
    go_enter Try.func11, Try.ntmps11
    go_wp2_with fail
    refine (IsForm_any _ _ _ _).mono ?_; rintro e w1 ⟨rfl, hb1⟩
    obtain ⟨hc1, hf1⟩ := bcell hb1
    have hB1 : Below w.heap.size w w1 := bfin (by go_grown) hb1
    go_wp2_with fail
    refine bodyPost_ret (v := .tuple #[.bool false, (.int .i64 1)]) (by first | (simp [results, Try.results11, go_sem]; done) | (simp [results, Try.results11, go_sem, hc1] <;> rfl)) rfl ⟨rfl, by go_grown⟩
  have hs := small_of hF
  cases hd : defB a b c
  · cases hi : indB a b c
    · rw [show isRed a b c = (false, 5) by simp [isRed, hF, hd, hi]]
      go_enter Try.func11, Try.ntmps11
      go_wp2_with fail
      refine (IsForm_any _ _ _ _).mono ?_; rintro e w1 ⟨rfl, hb1⟩
      obtain ⟨hc1, hf1⟩ := bcell hb1
      go_wp2_with fail
      refine (isDefinite_any _ _ _ _ hs).mono ?_; rintro e w2 ⟨rfl, hb2⟩
      replace hb2 := bstep hb1 hb2
      clear hc1 hf1 hb1
      obtain ⟨hc2, hf2⟩ := bcell hb2
      go_wp2_with fail
      refine (isIndefinite_any _ _ _ _ hs).mono ?_; rintro e w3 ⟨rfl, hb3⟩
      replace hb3 := bstep hb2 hb3
      clear hc2 hf2 hb2
      obtain ⟨hc3, hf3⟩ := bcell hb3
      have hB3 : Below w.heap.size w w3 := bfin (by go_grown) hb3
      go_wp2_with fail
      refine bodyPost_ret (v := .tuple #[.bool false, (.int .i64 5)]) (by first | (simp [results, Try.results11, go_sem]; done) | (simp [results, Try.results11, go_sem, hc3] <;> rfl)) rfl ⟨rfl, by go_grown⟩
    · rw [show isRed a b c = (redB a b c, 0) by simp [isRed, hF, hi]]
      go_enter Try.func11, Try.ntmps11
      go_wp2_with fail
      refine (IsForm_any _ _ _ _).mono ?_; rintro e w1 ⟨rfl, hb1⟩
      obtain ⟨hc1, hf1⟩ := bcell hb1
      go_wp2_with fail
      refine (isDefinite_any _ _ _ _ hs).mono ?_; rintro e w2 ⟨rfl, hb2⟩
      replace hb2 := bstep hb1 hb2
      clear hc1 hf1 hb1
      obtain ⟨hc2, hf2⟩ := bcell hb2
      go_wp2_with fail
      refine (isIndefinite_any _ _ _ _ hs).mono ?_; rintro e w3 ⟨rfl, hb3⟩
      replace hb3 := bstep hb2 hb3
      clear hc2 hf2 hb2
      obtain ⟨hc3, hf3⟩ := bcell hb3
      go_wp2_with fail
      refine (isReduced_any _ _ _ _ hs).mono ?_; rintro e w4 ⟨rfl, hb4⟩
      replace hb4 := bstep hb3 hb4
      clear hc3 hf3 hb3
      obtain ⟨hc4, hf4⟩ := bcell hb4
      have hB4 : Below w.heap.size w w4 := bfin (by go_grown) hb4
      go_wp2_with fail
      refine bodyPost_ret (v := .tuple #[.bool (redB a b c), (.int .i64 0)]) (by first | (simp [results, Try.results11, go_sem]; done) | (simp [results, Try.results11, go_sem, hc4] <;> rfl)) rfl ⟨rfl, by go_grown⟩
  · rw [show isRed a b c = (redB a b c, 0) by simp [isRed, hF, hd]]
    go_enter Try.func11, Try.ntmps11
    go_wp2_with fail
    refine (IsForm_any _ _ _ _).mono ?_; rintro e w1 ⟨rfl, hb1⟩
    obtain ⟨hc1, hf1⟩ := bcell hb1
    go_wp2_with fail
    refine (isDefinite_any _ _ _ _ hs).mono ?_; rintro e w2 ⟨rfl, hb2⟩
    replace hb2 := bstep hb1 hb2
    clear hc1 hf1 hb1
    obtain ⟨hc2, hf2⟩ := bcell hb2
    go_wp2_with fail
    refine (isReduced_any _ _ _ _ hs).mono ?_; rintro e w3 ⟨rfl, hb3⟩
    replace hb3 := bstep hb2 hb3
    clear hc2 hf2 hb2
    obtain ⟨hc3, hf3⟩ := bcell hb3
    have hB3 : Below w.heap.size w w3 := bfin (by go_grown) hb3
    go_wp2_with fail
    refine bodyPost_ret (v := .tuple #[.bool (redB a b c), (.int .i64 0)]) (by first | (simp [results, Try.results11, go_sem]; done) | (simp [results, Try.results11, go_sem, hc3] <;> rfl)) rfl ⟨rfl, by go_grown⟩
end Go.Proofs.Ytcaiofhdcffogaa
