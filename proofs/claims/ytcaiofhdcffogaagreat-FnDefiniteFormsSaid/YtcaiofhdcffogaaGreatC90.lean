/- Contracts: the forms of a discriminant; the law FormsOf. -/
import Derived.Test.YtcaiofhdcffogaaGreatC22
import Derived.Test.YtcaiofhdcffogaaGreatRow
import Derived.Test.YtcaiofhdcffogaaGreatNa
namespace Go.Proofs.YtcaiofhdcffogaaGreat
open Go.RowKit
theorem told_yes {d : Int} (h : inB d (-2000) 2000 = true) : toldB d = (decide (d % 4 < 2) && (decide (d < 0) || !sqB d)) := by simp [toldB, h]
theorem told_no {d : Int} (h : inB d (-2000) 2000 = false) : toldB d = false := by simp [toldB, h]
theorem elF : Elem Tryz.prog 60 25 (.agg #[.int .i64 0, .int .i64 0, .int .i64 0]) 3 24 := elem_of Tryz.underlying60 (by kernel_rfl) rfl (by omega) (by omega)
set_option maxHeartbeats 1000000 in
theorem l05Told_any (d : Int) (w : World) :
    Calls Tryz.prog 83 #[(.int .i64 d)] w fun e w' => e = .returned (.bool (toldB d)) ∧ w = w' := by
  have HW := Lib.hid (fun W => l01In_any d (-2000) 2000 W)
  cases hb : inB d (-2000) 2000
  · rw [told_no hb]
    rw [hb] at HW
    go_enter Tryz.func83, Tryz.ntmps83
    go_wp2_with fail
    refine (HW.out _).mono ?_; rintro e w' ⟨rfl, rfl⟩
    go_wp2_with fail
    go_ret
    exact ⟨rfl, rfl⟩
  · rw [told_yes hb]
    rw [hb] at HW
    obtain ⟨d0, d1⟩ := inB_iff.1 hb
    clear hb
    have HR := Lib.hid (fun W => l01Mod_any d 4 W (by omega) (by omega))
    generalize d % 4 = r at *
    by_cases hr : r < 2
    · by_cases hn : d < 0
      · rw [decide_eq_true hr, decide_eq_true hn]
        go_enter Tryz.func83, Tryz.ntmps83
        go_wp2_with fail
        refine (HW.out _).mono ?_; rintro e w' ⟨rfl, rfl⟩
        go_wp2_with fail
        refine (HR.out _).mono ?_; rintro e w' ⟨rfl, rfl⟩
        go_wp2_with fail
        go_ret
        exact ⟨rfl, rfl⟩
      · rw [decide_eq_true hr, decide_eq_false hn]
        have HQ := Lib.hid (fun W => l05Square_any d W (by omega) (by omega))
        generalize sqB d = q at *
        cases q
        all_goals
          go_enter Tryz.func83, Tryz.ntmps83
          go_wp2_with fail
          refine (HW.out _).mono ?_; rintro e w' ⟨rfl, rfl⟩
          go_wp2_with fail
          refine (HR.out _).mono ?_; rintro e w' ⟨rfl, rfl⟩
          go_wp2_with fail
          refine (HQ.out _).mono ?_; rintro e w' ⟨rfl, rfl⟩
          go_wp2_with fail
          go_ret
          exact ⟨ret_bool (by simp <;> omega), rfl⟩
    · rw [decide_eq_false hr]
      go_enter Tryz.func83, Tryz.ntmps83
      go_wp2_with fail
      refine (HW.out _).mono ?_; rintro e w' ⟨rfl, rfl⟩
      go_wp2_with fail
      refine (HR.out _).mono ?_; rintro e w' ⟨rfl, rfl⟩
      go_wp2_with fail
      go_ret
      exact ⟨rfl, rfl⟩
/-- What a round asks of a and b. -/
structure Rnd (d a b : Int) (k : Nat) : Prop where
  sm : Small a b (okC d a b)
  s0 : 0 ≤ b * b
  s1 : b * b ≤ 2500
  c0 : -1200 ≤ okC d a b
  c1 : okC d a b ≤ 1200
  g0 : 0 ≤ (Int.gcd a b : Int)
  g1 : (Int.gcd a b : Int) ≤ 100
  yes : okF d a b = true → frow d a (k + 1) = frow d a k ++ [⟨a, b, okC d a b⟩]
  no : okF d a b = false → frow d a (k + 1) = frow d a k
theorem rnd {d a b : Int} {k : Nat} (hd : -2000 ≤ d ∧ d ≤ 2000) (ha : a ≠ 0) (ha2 : -50 ≤ a ∧ a ≤ 50) (hb : -50 ≤ b ∧ b ≤ 50) (hk : b = (k : Int) - 50) : Rnd d a b k := by
  obtain ⟨c0, c1, s0, s1⟩ := okBd hd ha hb
  have hg : (Int.gcd a b : Int) ≤ 100 := by
    have h1 : Int.gcd a b ∣ a.natAbs := Nat.gcd_dvd_left _ _
    have := Nat.le_of_dvd (by omega) h1
    omega
  exact ⟨⟨by omega, by omega, by omega, by omega, by omega, by omega⟩, s0, s1, c0, c1, by omega, hg, fun h => frow_yes hk h, fun h => frow_no hk h⟩
/-- The four tests in the program's order. -/
theorem okF_tests {d a b : Int} (ha : a ≠ 0) : okF d a b = (decide (disc a b (okC d a b) = d) && (decide ((Int.gcd (Int.gcd a b : Int) (okC d a b) : Int) = 1) && (decide (0 < d ∨ 0 < a) && redB a b (okC d a b)))) := by
  unfold okF
  rw [decide_eq_decide.2 (disc_iff (d := d) (b := b) ha), show decide (a ≠ 0 ∧ (0 < d ∨ 0 < a)) = decide (0 < d ∨ 0 < a) from decide_eq_decide.2 ⟨fun h => h.2, fun h => ⟨ha, h⟩⟩]
  generalize decide (0 < d ∨ 0 < a) = x
  generalize decide ((b * b - d) % (4 * (a.natAbs : Int)) = 0) = y
  generalize decide ((Int.gcd (Int.gcd a b : Int) (okC d a b) : Int) = 1) = z
  cases x <;> cases y <;> cases z <;> simp
end Go.Proofs.YtcaiofhdcffogaaGreat
