/- Contracts: rests, quotients, greatest common divisors, kinds. -/
import Derived.Test.YtjnkogkpdbgohaaC2
import Derived.Test.YtjnkogkpdbgohaaNa
import Derived.Test.YtjnkogkpdbgohaaReg
namespace Go.Proofs.Ytjnkogkpdbgohaa
open Go.RowKit
attribute [local go_sem] eqMat
set_option maxHeartbeats 400000 in
theorem divisor_any (a b : Int) (w : World) (a0 : -9000000000000000000 ≤ a) (a1 : a ≤ 9000000000000000000) (b0 : -9000000000000000000 ≤ b) (b1 : b ≤ 9000000000000000000) :
    Calls Try.prog 54 #[(.int .i64 a), (.int .i64 b)] w fun e w' => e = .returned (.int .i64 ((Int.gcd a b : Int))) ∧ Below w.heap.size w w' := by
  go_enter Try.func54, Try.ntmps54
  go_wp2
  go_loopw [0, 1] (fun x y wr => ∃ p q : Int, x = (.int .i64 p) ∧ y = (.int .i64 q) ∧ (-9000000000000000000 ≤ p ∧ p ≤ 9000000000000000000 ∧ -9000000000000000000 ≤ q ∧ q ≤ 9000000000000000000) ∧ Hid (Int.gcd p q = Int.gcd a b) ∧ Below w.heap.size w wr) (fun _ y _ => (intOf y).natAbs)
  case atStart => exact ⟨_, _, rfl, rfl, ⟨a0, a1, b0, b1⟩, Lib.hid rfl, Below.refl _ _⟩
  case round =>
    obtain ⟨p, q, rfl, rfl, ⟨p0, p1, q0, q1⟩, hg, hb⟩ := hrel
    by_cases hq : q = 0
    · subst hq
      go_wp2_with fail
      refine (size_any _ _ p0 p1).mono ?_; rintro e w' ⟨rfl, rfl⟩
      go_wp2_with fail
      go_ret
      exact ⟨ret_int (by rw [← hg.out]; simp), hb⟩
    · have hl := @tmod_lt p q hq
      have hs := @tmod_small p q 9000000000000000000 hq q0 q1
      go_wp2_with fail
      go_quiet (fail)
      go_wp2_with fail
      go_roundw
      case rel => exact ⟨_, _, rfl, rfl, ⟨q0, q1, hs.1, hs.2⟩, Lib.hid (by rw [gcd_step hq]; exact hg.out), below_drewN hb _⟩
      case measure => simpa [intOf] using hl
set_option maxHeartbeats 400000 in
theorem l01Gcd_any (a b : Int) (w : World) (a0 : -9000000000000000000 ≤ a) (a1 : a ≤ 9000000000000000000) (b0 : -9000000000000000000 ≤ b) (b1 : b ≤ 9000000000000000000) :
    Calls Try.prog 52 #[(.int .i64 a), (.int .i64 b)] w fun e w' => e = .returned (.int .i64 ((Int.gcd a b : Int))) ∧ Below w.heap.size w w' := by
  go_enter Try.func52, Try.ntmps52
  go_wp2
  go_loopw [0, 1] (fun x y wr => ∃ p q : Int, x = (.int .i64 p) ∧ y = (.int .i64 q) ∧ (-9000000000000000000 ≤ p ∧ p ≤ 9000000000000000000 ∧ -9000000000000000000 ≤ q ∧ q ≤ 9000000000000000000) ∧ Hid (Int.gcd p q = Int.gcd a b) ∧ Below w.heap.size w wr) (fun _ y _ => (intOf y).natAbs)
  case atStart => exact ⟨_, _, rfl, rfl, ⟨a0, a1, b0, b1⟩, Lib.hid rfl, Below.refl _ _⟩
  case round =>
    obtain ⟨p, q, rfl, rfl, ⟨p0, p1, q0, q1⟩, hg, hb⟩ := hrel
    by_cases hq : q = 0
    · subst hq
      by_cases hp : p < 0
      all_goals
        go_wp2_with fail
        go_ret
        exact ⟨ret_int (by rw [← hg.out]; simp; omega), hb⟩
    · have hl := @tmod_lt p q hq
      have hs := @tmod_small p q 9000000000000000000 hq q0 q1
      go_wp2_with fail
      go_roundw
      case rel => exact ⟨_, _, rfl, rfl, ⟨q0, q1, hs.1, hs.2⟩, Lib.hid (by rw [gcd_step hq]; exact hg.out), hb⟩
      case measure => simpa [intOf] using hl
theorem l01Mod_any (a n : Int) (w : World) (n0 : 0 < n) (n1 : n ≤ 4000000000000000000) :
    Calls Try.prog 60 #[(.int .i64 a), (.int .i64 n)] w fun e w' => e = .returned (.int .i64 (a % n)) ∧ w = w' := by
  obtain ⟨h1, h2⟩ := @tmod_bd a n n0
  have h3 : n ≠ 0 := by omega
  go_enter Try.func60, Try.ntmps60
  go_wp2
  go_ret
  exact ⟨ret_int (rest_eq' n0), rfl⟩
theorem floor_any (a b : Int) (w : World) (a0 : -9000000000000000000 ≤ a) (a1 : a ≤ 9000000000000000000) (b0 : 0 < b) (b1 : b ≤ 9000000000000000000) :
    Calls Try.prog 55 #[(.int .i64 a), (.int .i64 b)] w fun e w' => e = .returned (.int .i64 (a / b)) ∧ w = w' := by
  have hne : b ≠ 0 := by omega
  have hb1 : -9223372036854775808 ≤ a.tdiv b - 1 ∧ a.tdiv b ≤ 9223372036854775807 := by
    have := Int.natAbs_tdiv a b
    have h2 : a.natAbs / b.natAbs ≤ a.natAbs := Nat.div_le_self _ _
    have h3 : (a.tdiv b).natAbs = a.natAbs / b.natAbs := by rw [this]; rfl
    omega
  obtain ⟨hb2, hb3⟩ := hb1
  have hb4 : ¬ b < 0 := by omega
  by_cases hz : a.tmod b = 0
  · have hz' : (a.tmod b != 0) = false := by simp [hz]
    have HZ := Lib.hid hz
    clear hz
    by_cases ha : a < 0
    all_goals
      go_enter Try.func55, Try.ntmps55
      go_wp2
      all_goals
        go_ret
        exact ⟨ret_int (by first | rfl | exact floor_z HZ.out), rfl⟩
  · have hz' : (a.tmod b != 0) = true := by simp [hz]
    by_cases ha : a < 0
    · go_enter Try.func55, Try.ntmps55
      go_wp2
      go_ret
      exact ⟨ret_int (floor_t b0 hz ha), rfl⟩
    · go_enter Try.func55, Try.ntmps55
      go_wp2
      all_goals
        go_ret
        exact ⟨ret_int (by first | rfl | exact floor_p (by omega)), rfl⟩
theorem l01Floor_any (a b : Int) (w : World) (a0 : -4000000000000000000 ≤ a) (a1 : a ≤ 4000000000000000000) (b0 : 0 < b) (b1 : b ≤ 4000000000000000000) :
    Calls Try.prog 53 #[(.int .i64 a), (.int .i64 b)] w fun e w' => e = .returned (.int .i64 (a / b)) ∧ w = w' := by
  have h1 := Int.emod_nonneg a (show b ≠ 0 by omega)
  have h2 := Int.emod_lt_of_pos a b0
  have h3 : b ≠ 0 := by omega
  have he : (a - a % b).tdiv b = a / b := by
    have e : a - a % b = b * (a / b) := by have := Int.emod_def a b; omega
    rw [e, Int.mul_tdiv_cancel_left _ h3]
  obtain ⟨h4, h5⟩ := @ediv_bd a b 4000000000000000000 b0 a0 a1
  go_enter Try.func53, Try.ntmps53
  go_wp2_with fail
  refine (l01Mod_any _ _ _ b0 (by omega)).mono ?_; rintro e w' ⟨rfl, rfl⟩
  go_wp2
  go_ret
  exact ⟨rfl, rfl⟩
end Go.Proofs.Ytjnkogkpdbgohaa
