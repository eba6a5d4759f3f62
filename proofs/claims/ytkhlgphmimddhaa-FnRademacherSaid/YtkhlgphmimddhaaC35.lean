/- Contracts: signs; the first and the second number of a matrix; the laws. -/
import Derived.Test.YtkhlgphmimddhaaC34
import Derived.Test.YtkhlgphmimddhaaC3
namespace Go.Proofs.Ytkhlgphmimddhaa
open Go.RowKit
def sg (n : Int) : Int := if n < 0 then -1 else if 0 < n then 1 else 0
theorem sign_any (n : Int) (w : World) : Calls Try.prog 81 #[(.int .i64 n)] w fun e w' => e = .returned (.int .i64 (sg n)) ∧ w = w' := by
  by_cases h : n < 0 <;> by_cases h2 : 0 < n
  all_goals
    go_enter Try.func81, Try.ntmps81
    go_wp2
    go_ret
    exact ⟨ret_int (by simp [sg] <;> omega), rfl⟩
theorem l07Sign_any (n : Int) (w : World) : Calls Try.prog 79 #[(.int .i64 n)] w fun e w' => e = .returned (.int .i64 (sg n)) ∧ w = w' := by
  by_cases h : n < 0 <;> by_cases h2 : 0 < n
  all_goals
    go_enter Try.func79, Try.ntmps79
    go_wp2
    go_ret
    exact ⟨ret_int (by simp [sg] <;> omega), rfl⟩
theorem det_gcd {a b c d : Int} (h : a * d - b * c = 1) : Int.gcd d (c.natAbs : Int) = 1 := by
  refine Nat.dvd_one.1 ?_
  have h1 := Int.gcd_dvd_left d (c.natAbs : Int)
  have h2 : ((Int.gcd d (c.natAbs : Int) : Nat) : Int) ∣ c := Int.dvd_natAbs.1 (Int.gcd_dvd_right d (c.natAbs : Int))
  have h3 := Int.dvd_sub (Int.dvd_trans h1 (Int.dvd_mul_left a d)) (Int.dvd_trans h2 (Int.dvd_mul_left b c))
  rw [h] at h3
  exact Int.ofNat_dvd.1 (by simpa using h3)
def firstV (a b c d : Int) : Int := if c = 0 then b * d else sg c * (a + d - lZ d (c.natAbs : Int)).tdiv (c.natAbs : Int)
def firstRes (a b c d : Int) : Int × Int := if 20000 < (c.natAbs : Int) then (0, 3) else (firstV a b c d, 0)
structure FirstOk (a c d : Int) : Prop where
  f0 : -8400000000000 ≤ fourZ d (c.natAbs : Int)
  f1 : fourZ d (c.natAbs : Int) ≤ 8400000000000
  l0 : -26000000000000 ≤ lZ d (c.natAbs : Int)
  l1 : lZ d (c.natAbs : Int) ≤ 26000000000000
  s0 : 0 < (c.natAbs : Int) * (c.natAbs : Int)
  s1 : (c.natAbs : Int) * (c.natAbs : Int) ≤ 400000000
  t0 : -40000000000000 ≤ (a + d) * (c.natAbs : Int)
  t1 : (a + d) * (c.natAbs : Int) ≤ 40000000000000
  e1 : ((a + d) * (c.natAbs : Int) - 3 * fourZ d (c.natAbs : Int)).tdiv ((c.natAbs : Int) * (c.natAbs : Int)) = (a + d - lZ d (c.natAbs : Int)).tdiv (c.natAbs : Int)
  q0 : -28000000000000 ≤ (a + d - lZ d (c.natAbs : Int)).tdiv (c.natAbs : Int)
  q1 : (a + d - lZ d (c.natAbs : Int)).tdiv (c.natAbs : Int) ≤ 28000000000000
  e2 : (sg c * (a + d - lZ d (c.natAbs : Int))).tdiv (c.natAbs : Int) = sg c * (a + d - lZ d (c.natAbs : Int)).tdiv (c.natAbs : Int)
theorem first_ok {a b c d : Int} (h : IsMat a b c d) (hc : c ≠ 0) (h1 : (c.natAbs : Int) ≤ 20000) : FirstOk a c d := by
  have hg := det_gcd h.det
  have hp : 0 < (c.natAbs : Int) := by omega
  obtain ⟨a0, a1, b0, b1, c0, c1, d0, d1, _⟩ := h
  have hsg : sg c = 1 ∨ sg c = -1 := by unfold sg; split <;> (try split) <;> omega
  have e := lZ_eq hp hg
  have f := fourZ_bd (h := d) h1
  have l := lZ_bd (by omega) h1 hg
  have m1 := mul_bd (a := (c.natAbs : Int)) (b := (c.natAbs : Int)) (A := 20000) (B := 20000) (by omega) (by omega) (by omega) (by omega)
  have m2 := mul_bd (a := a + d) (b := (c.natAbs : Int)) (A := 2000000000) (B := 20000) (by omega) (by omega) (by omega) (by omega)
  have q := tdiv_bd (a := a + d - lZ d (c.natAbs : Int)) (b := (c.natAbs : Int)) (K := 28000000000000) (by omega) (by omega)
  refine ⟨f.1, f.2, l.1, l.2, Int.mul_pos hp hp, by omega, by omega, by omega, ?_, q.1, q.2, ?_⟩
  · rw [← e, show (a + d) * (c.natAbs : Int) - (c.natAbs : Int) * lZ d (c.natAbs : Int) = (c.natAbs : Int) * (a + d - lZ d (c.natAbs : Int)) by grind]
    exact Int.mul_tdiv_mul_of_pos _ _ hp
  · rcases hsg with h | h
    · rw [h]; simp
    · rw [h, Int.neg_one_mul, Int.neg_one_mul, Int.neg_tdiv]
set_option maxRecDepth 100000 in
set_option maxHeartbeats 1000000 in
theorem firstNumber_any (a b c d : Int) (w : World) (h : IsMat a b c d) :
    Calls Try.prog 78 #[(.agg #[.int .i64 a, .int .i64 b, .int .i64 c, .int .i64 d])] w fun e w' => e = .returned (.tuple #[(.int .i64 ((firstRes a b c d).1)), (.int .i64 ((firstRes a b c d).2))]) ∧ Below w.heap.size w w' := by
  have ⟨a0, a1, b0, b1, c0, c1, d0, d1, _⟩ := h
  have HT := Lib.hid (fun W => trace_any a b c d W h)
  by_cases hl : 20000 < (c.natAbs : Int)
  · rw [show firstRes a b c d = (0, 3) by simp [firstRes, hl]]
    go_enter Try.func78, Try.ntmps78
    go_wp2_with fail
    refine (size_any _ _ (by omega) (by omega)).mono ?_; rintro e w' ⟨rfl, rfl⟩
    go_wp2_with fail
    refine bodyPost_ret (v := .tuple #[(.int .i64 0), (.int .i64 3)]) (by simp [results, Try.results78, go_sem] <;> rfl) rfl ⟨rfl, by go_grown⟩
  rw [show firstRes a b c d = (firstV a b c d, 0) by simp [firstRes, hl]]
  by_cases hc : c = 0
  · subst hc
    have hm := mul_bd (a := b) (b := d) (A := 1000000000) (B := 1000000000) b0 b1 d0 d1
    rw [show firstV a b 0 d = b * d by simp [firstV]]
    obtain ⟨hm0, hm1⟩ := hm
    have HZ := Lib.hid (fun W => size_any 0 W (by omega) (by omega))
    rw [show (((0 : Int).natAbs : Nat) : Int) = 0 from rfl] at HZ
    clear hl
    go_enter Try.func78, Try.ntmps78
    go_wp2_with fail
    refine (HZ.out _).mono ?_; rintro e w' ⟨rfl, rfl⟩
    go_wp2_with fail
    refine bodyPost_ret (v := .tuple #[(.int .i64 (b * d)), (.int .i64 0)]) (by simp [results, Try.results78, go_sem] <;> rfl) rfl ⟨rfl, by go_grown⟩
  · obtain ⟨f0, f1, l0, l1, s0, s1, t0, t1, e1, q0, q1, -⟩ := first_ok h hc (by omega)
    have HZ := Lib.hid (fun W => size_any c W (by omega) (by omega))
    have HF := Lib.hid (fun W => fourTimes_any d (c.natAbs : Int) W (by omega) (by omega))
    have HS := Lib.hid (fun W => sign_any c W)
    have hsg : sg c = 1 ∨ sg c = -1 := by unfold sg; split <;> (try split) <;> omega
    rw [show firstV a b c d = sg c * (a + d - lZ d (c.natAbs : Int)).tdiv (c.natAbs : Int) by simp [firstV, hc]]
    have hk0 : 0 < (c.natAbs : Int) := by omega
    have hk1 : (c.natAbs : Int) ≤ 20000 := by omega
    generalize (a + d - lZ d (c.natAbs : Int)).tdiv (c.natAbs : Int) = Q at *
    generalize fourZ d (c.natAbs : Int) = F at *
    generalize lZ d (c.natAbs : Int) = L at *
    generalize sg c = s at *
    generalize (c.natAbs : Int) = k at *
    have sn : k * k ≠ 0 := by omega
    have sq : -28000000000000 ≤ s * Q ∧ s * Q ≤ 28000000000000 := by rcases hsg with rfl | rfl <;> omega
    obtain ⟨sq0, sq1⟩ := sq
    have s0' : -1 ≤ s ∧ s ≤ 1 := by omega
    obtain ⟨sb0, sb1⟩ := s0'
    clear hsg hl
    go_enter Try.func78, Try.ntmps78
    go_wp2_with fail
    refine (HZ.out _).mono ?_; rintro e w' ⟨rfl, rfl⟩
    go_wp2_with fail
    refine wp_region_ext (by kernel_rfl) (by kernel_rfl) ?_
    repeat (go_big_quiet_step (first | ((go_at_call 81; refine Calls.ext_same (HS.out _))) | ((go_at_call 82; refine Calls.ext_of (Nat.le_refl _) (HT.out _))) | ((go_at_call 67; refine Calls.ext_same (HF.out _)))))
    refine wpQuiet_nil ?_
    intro w1 hb1
    obtain ⟨hc1, hf1⟩ := bcell hb1
    have hz0 : w.heap.size < w1.heap.size := by have := hb1.size; (try simp at this); omega
    have hB1 : Below w.heap.size w w1 := bfin (by go_grown) hb1
    go_wp2_with fail
    have hall := And.intro hc1 (hz0)
    refine bodyPost_ret (v := .tuple #[(.int .i64 (s * Q)), (.int .i64 0)]) (by first | (simp [results, Try.results78, go_sem]; done) | (simp [results, Try.results78, go_sem, hall] <;> rfl)) rfl ⟨rfl, by go_grown⟩
end Go.Proofs.Ytkhlgphmimddhaa
