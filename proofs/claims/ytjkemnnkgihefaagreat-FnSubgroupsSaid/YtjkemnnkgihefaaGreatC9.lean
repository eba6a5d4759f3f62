/- Contracts: rests, quotients, greatest common divisors, kinds. -/
import Derived.Test.YtjkemnnkgihefaaGreatC2
import Derived.Test.YtjkemnnkgihefaaGreatPA
import Derived.Test.YtjkemnnkgihefaaGreatReg
namespace Go.Proofs.YtjkemnnkgihefaaGreat
open Go.RowKit
attribute [local go_sem] eqMat
set_option maxHeartbeats 400000 in
theorem divisor_any (a b : Int) (w : World) (a0 : -9000000000000000000 ≤ a) (a1 : a ≤ 9000000000000000000) (b0 : -9000000000000000000 ≤ b) (b1 : b ≤ 9000000000000000000) :
    Calls Tryz.prog 64 #[(.int .i64 a), (.int .i64 b)] w fun e w' => e = .returned (.int .i64 ((Int.gcd a b : Int))) ∧ Below w.heap.size w w' := by
  go_enter Tryz.func64, Tryz.ntmps64
  go_wp2
  go_loopw [0, 1] (fun x y wr => ∃ p q : Int, x = (.int .i64 p) ∧ y = (.int .i64 q) ∧ (-9000000000000000000 ≤ p ∧ p ≤ 9000000000000000000 ∧ -9000000000000000000 ≤ q ∧ q ≤ 9000000000000000000) ∧ Hid (Int.gcd p q = Int.gcd a b) ∧ Below w.heap.size w wr) (fun _ y _ => (intOf y).natAbs)
  case atStart => exact ⟨_, _, rfl, rfl, ⟨a0, a1, b0, b1⟩, Lib.hid rfl, Below.refl _ _⟩
  case round =>
    obtain ⟨p, q, rfl, rfl, ⟨p0, p1, q0, q1⟩, hg, hb⟩ := hrel
    by_cases hq : q = 0
    · subst hq
      go_wp2_with fail
      refine (size_any _ _ p0 p1).mono ?_; rintro e w' ⟨rfl, rfl⟩
      go_wp2_with fail
      go_ret
      exact ⟨ret_int (by rw [← hg.out]; simp), hb⟩
    · have hl := @tmod_lt p q hq
      have hs := @tmod_small p q 9000000000000000000 hq q0 q1
      go_wp2_with fail
      go_quiet (fail)
      go_wp2_with fail
      go_roundw
      case rel => exact ⟨_, _, rfl, rfl, ⟨q0, q1, hs.1, hs.2⟩, Lib.hid (by rw [gcd_step hq]; exact hg.out), below_drewN hb _⟩
      case measure => simpa [intOf] using hl
set_option maxHeartbeats 400000 in
theorem l01Gcd_any (a b : Int) (w : World) (a0 : -9000000000000000000 ≤ a) (a1 : a ≤ 9000000000000000000) (b0 : -9000000000000000000 ≤ b) (b1 : b ≤ 9000000000000000000) :
    Calls Tryz.prog 65 #[(.int .i64 a), (.int .i64 b)] w fun e w' => e = .returned (.int .i64 ((Int.gcd a b : Int))) ∧ Below w.heap.size w w' := by
  go_enter Tryz.func65, Tryz.ntmps65
  go_wp2
  go_loopw [0, 1] (fun x y wr => ∃ p q : Int, x = (.int .i64 p) ∧ y = (.int .i64 q) ∧ (-9000000000000000000 ≤ p ∧ p ≤ 9000000000000000000 ∧ -9000000000000000000 ≤ q ∧ q ≤ 9000000000000000000) ∧ Hid (Int.gcd p q = Int.gcd a b) ∧ Below w.heap.size w wr) (fun _ y _ => (intOf y).natAbs)
  case atStart => exact ⟨_, _, rfl, rfl, ⟨a0, a1, b0, b1⟩, Lib.hid rfl, Below.refl _ _⟩
  case round =>
    obtain ⟨p, q, rfl, rfl, ⟨p0, p1, q0, q1⟩, hg, hb⟩ := hrel
    by_cases hq : q = 0
    · subst hq
      by_cases hp : p < 0
      all_goals
        go_wp2_with fail
        go_ret
        exact ⟨ret_int (by rw [← hg.out]; simp; omega), hb⟩
    · have hl := @tmod_lt p q hq
      have hs := @tmod_small p q 9000000000000000000 hq q0 q1
      go_wp2_with fail
      go_roundw
      case rel => exact ⟨_, _, rfl, rfl, ⟨q0, q1, hs.1, hs.2⟩, Lib.hid (by rw [gcd_step hq]; exact hg.out), hb⟩
      case measure => simpa [intOf] using hl
theorem rest_any (a n : Int) (w : World) (n0 : 0 < n) (n1 : n ≤ 4000000000000000000) :
    Calls Tryz.prog 47 #[(.int .i64 a), (.int .i64 n)] w fun e w' => e = .returned (.int .i64 (a % n)) ∧ w = w' := by
  obtain ⟨h1, h2⟩ := @tmod_bd a n n0
  have h3 : n ≠ 0 := by omega
  go_enter Tryz.func47, Tryz.ntmps47
  go_wp2
  go_ret
  exact ⟨ret_int (rest_eq' n0), rfl⟩
theorem l01Mod_any (a n : Int) (w : World) (n0 : 0 < n) (n1 : n ≤ 4000000000000000000) :
    Calls Tryz.prog 52 #[(.int .i64 a), (.int .i64 n)] w fun e w' => e = .returned (.int .i64 (a % n)) ∧ w = w' := by
  obtain ⟨h1, h2⟩ := @tmod_bd a n n0
  have h3 : n ≠ 0 := by omega
  go_enter Tryz.func52, Tryz.ntmps52
  go_wp2
  go_ret
  exact ⟨ret_int (rest_eq' n0), rfl⟩
end Go.Proofs.YtjkemnnkgihefaaGreat
