/- Contracts: the next form of an indefinite form. -/
import Derived.Test.YtcaiofhdcffogaaC20
import Derived.Test.YtcaiofhdcffogaaNa
namespace Go.Proofs.Ytcaiofhdcffogaa
open Go.RowKit
theorem natAbs_two (c : Int) : ((2 * c).natAbs : Int) = 2 * (c.natAbs : Int) := by omega
set_option maxRecDepth 100000 in
set_option maxHeartbeats 1000000 in
theorem next_any (a b c : Int) (w : World) (hs : Small a b c) (h : NextOk a b c) :
    Calls Try.prog 44 #[(.agg #[.int .i64 a, .int .i64 b, .int .i64 c])] w fun e w' => e = .returned (.agg #[.int .i64 ((nextF a b c).x), .int .i64 ((nextF a b c).y), .int .i64 ((nextF a b c).z)]) ∧ Below w.heap.size w w' := by
  have HD := Lib.hid (fun W => disc_any a b c W hs)
  have HR := Lib.hid (fun W => root_any (disc a b c) W h.d0 h.d1)
  obtain ⟨c0, r0, r1, d0, d1, b0, b1, k0, k1, quo, mid, fst, -, -, -, -, -⟩ := h
  have ⟨ca0, ca1, cb0, cb1, cc0, cc1⟩ := hs
  have HZ := Lib.hid (fun W => size_any (2 * c) W (by omega) (by omega))
  rw [natAbs_two] at HZ
  have HT := Lib.hid (fun W => rest_any (isqrt (disc a b c) + b) (2 * (c.natAbs : Int)) W (by omega) (by omega))
  have HA := Lib.hid (fun W => apply_any a b c 0 (-1) 1 (nextK a b c) W hs (by omega) (by omega) (by omega) (by omega) (by omega) (by omega) (by omega) (by omega))
  rw [mid, fst] at HA
  have hN : 0 < 2 * (c.natAbs : Int) ∧ 2 * (c.natAbs : Int) ≤ 2000000 := by omega
  show Calls _ _ _ _ fun e w' => e = .returned (.agg #[.int .i64 c, .int .i64 (nextB a b c), .int .i64 (formAt a b c (-1) (nextK a b c))]) ∧ Below w.heap.size w w'
  clear mid fst
  generalize formAt a b c (-1) (nextK a b c) = L at *
  unfold nextB at *
  rw [show (b * b - 4 * a * c : Int) = disc a b c from rfl] at HD
  generalize nextK a b c = k at *
  generalize disc a b c = D at *
  generalize isqrt D = r at *
  generalize 2 * (c.natAbs : Int) = N at *
  have ht := Int.emod_nonneg (r + b) (show N ≠ 0 by omega)
  have ht2 := Int.emod_lt_of_pos (r + b) hN.1
  generalize (r + b) % N = t at *
  obtain ⟨N0, N1⟩ := hN
  go_enter Try.func44, Try.ntmps44
  go_wp2_with fail
  refine (HD.out _).mono ?_; rintro e w1 ⟨rfl, hb1⟩
  obtain ⟨hc1, hf1⟩ := bcell hb1
  go_wp2_with fail
  refine (HR.out _).mono ?_; rintro e w' ⟨rfl, rfl⟩
  obtain ⟨hz0, hz1⟩ : w.heap.size < w1.heap.size ∧ w.heap.size + 1 < w1.heap.size := by have := hb1.size; (try simp at this); omega
  go_wp2_with fail
  refine wp_region_ext (by kernel_rfl) (by kernel_rfl) ?_
  repeat (go_big_quiet_step (first | ((go_at_call 72; refine Calls.ext_same (HZ.out _))) | ((go_at_call 69; refine Calls.ext_same (HT.out _)))))
  refine wpQuiet_nil ?_
  intro w2 hb2
  replace hb2 := bstep hb1 hb2
  clear hc1 hf1 hb1
  obtain ⟨hc2, hf2⟩ := bcell hb2
  obtain ⟨hz0, hz1⟩ : w.heap.size < w2.heap.size ∧ w.heap.size + 1 < w2.heap.size := by have := hb2.size; (try simp at this); omega
  go_wp2_with fail
  go_outline
  go_wp2_with fail
  refine (HA.out _).mono ?_; rintro e w3 ⟨rfl, hb3⟩
  replace hb3 := bstep hb2 hb3
  clear hc2 hf2 hb2
  obtain ⟨hc3, hf3⟩ := bcell hb3
  obtain ⟨hz0, hz1⟩ : w.heap.size < w3.heap.size ∧ w.heap.size + 1 < w3.heap.size := by have := hb3.size; (try simp at this); omega
  have hB3 : Below w.heap.size w w3 := bfin (by go_grown) hb3
  go_wp2_with fail
  have hall := And.intro hc3 (And.intro hz0 (hz1))
  refine bodyPost_ret (v := (.agg #[.int .i64 c, .int .i64 (r - t), .int .i64 L])) (by first | (simp [results, Try.results44, go_sem]; done) | (simp [results, Try.results44, go_sem, hall] <;> rfl)) rfl ⟨rfl, by go_grown⟩
set_option maxRecDepth 100000 in
set_option maxHeartbeats 2000000 in
theorem l05Next_any (a b c : Int) (w : World) (hs : Small a b c) (h : NextOk a b c) :
    Calls Try.prog 46 #[(.agg #[.int .i64 a, .int .i64 b, .int .i64 c])] w fun e w' => e = .returned (.agg #[.int .i64 ((nextF a b c).x), .int .i64 ((nextF a b c).y), .int .i64 ((nextF a b c).z)]) ∧ Below w.heap.size w w' := by
  have HD := Lib.hid (fun W => l05Disc_any a b c W hs)
  have HR := Lib.hid (isqrt_root h.d0)
  obtain ⟨c0, r0, r1, d0, d1, b0, b1, -, -, -, -, -, sq0, sq1, l0, l1, lst⟩ := h
  have ⟨ca0, ca1, cb0, cb1, cc0, cc1⟩ := hs
  have HT := Lib.hid (fun W => l01Mod_any (isqrt (disc a b c) + b) (2 * (c.natAbs : Int)) W (by omega) (by omega))
  have hN : 0 < 2 * (c.natAbs : Int) ∧ 2 * (c.natAbs : Int) ≤ 2000000 := by omega
  show Calls _ _ _ _ fun e w' => e = .returned (.agg #[.int .i64 c, .int .i64 (nextB a b c), .int .i64 (formAt a b c (-1) (nextK a b c))]) ∧ Below w.heap.size w w'
  generalize formAt a b c (-1) (nextK a b c) = L at *
  unfold nextB at *
  rw [show (b * b - 4 * a * c : Int) = disc a b c from rfl] at HD
  generalize disc a b c = D at *
  generalize isqrt D = r at *
  have hNe : (c < 0 ∧ 2 * (c.natAbs : Int) = 2 * -c) ∨ (0 < c ∧ 2 * (c.natAbs : Int) = 2 * c) := by omega
  generalize 2 * (c.natAbs : Int) = N at *
  have ht := Int.emod_nonneg (r + b) (show N ≠ 0 by omega)
  have ht2 := Int.emod_lt_of_pos (r + b) hN.1
  generalize (r + b) % N = t at *
  obtain ⟨N0, N1⟩ := hN
  rcases hNe with ⟨hc, rfl⟩ | ⟨hc, rfl⟩
  all_goals
    go_enter Try.func46, Try.ntmps46
    go_wp2_with fail
    refine wp_region_ext (by kernel_rfl) (by kernel_rfl) ?_
    repeat (go_big_quiet_step (((go_at_call 42; refine Calls.ext_of (Nat.le_refl _) (HD.out _)))))
    refine wpQuiet_nil ?_
    intro w1 hb1
    obtain ⟨hc1, hf1⟩ := bcell hb1
    obtain ⟨hz0, hz1⟩ : w.heap.size < w1.heap.size ∧ w.heap.size + 1 < w1.heap.size := by have := hb1.size; (try simp at this); omega
    go_wp2_with fail
    go_outline
    go_loop [6, 7] (fun r s => ∃ x y : Int, r = (.int .i64 x) ∧ s = (.int .i64 y) ∧ 0 ≤ x ∧ 0 ≤ y ∧ y ≤ 2147483648 ∧ Hid (SqInv D x y)) (fun _ s => (intOf s).toNat)
    case atStart => exact ⟨0, _, rfl, rfl, by omega, by omega, by omega, Lib.hid (sqInv_start d0 d1)⟩
    case round =>
      obtain ⟨x, y, rfl, rfl, x0, y0, y1, H⟩ := hrel
      have hx := sqInv_x H.out d1
      by_cases hy : 0 < y
      · have hm := mul_bd (a := x + y) (b := x + y) (A := 2149719716) (B := 2149719716) (by omega) (by omega) (by omega) (by omega)
        obtain ⟨hm0, hm1⟩ := hm
        by_cases hc : (x + y) * (x + y) ≤ D
        · have H2 := Lib.hid (sqInv_yes hy H.out hc)
          go_wp2_with fail
          go_round
          case rel => exact ⟨_, _, rfl, rfl, by omega, by omega, by omega, H2⟩
          case measure => simp [intOf]; omega
        · have H2 := Lib.hid (sqInv_no hy H.out hc)
          go_wp2_with fail
          go_round
          case rel => exact ⟨_, _, rfl, rfl, by omega, by omega, by omega, H2⟩
          case measure => simp [intOf]; omega
      · obtain rfl : y = 0 := by omega
        obtain rfl : x = r := root_unique (sqInv_end H.out x0) HR.out
        go_wp2_with fail
        refine (HT.out _).mono ?_; rintro e w' ⟨rfl, rfl⟩
        obtain ⟨hz0, hz1⟩ : w.heap.size < w1.heap.size ∧ w.heap.size + 1 < w1.heap.size := by have := hb1.size; (try simp at this); omega
        have hB1 : Below w.heap.size w w1 := bfin (by go_grown) hb1
        go_wp2_with fail
        have hall := And.intro hc1 (And.intro hz0 (hz1))
        refine bodyPost_ret (v := (.agg #[.int .i64 c, .int .i64 (x - t), .int .i64 L])) (by first | (simp [results, Try.results46, go_sem]; done) | (simp [results, Try.results46, go_sem, hall] <;> rfl)) rfl ⟨rfl, by go_grown⟩
end Go.Proofs.Ytcaiofhdcffogaa
