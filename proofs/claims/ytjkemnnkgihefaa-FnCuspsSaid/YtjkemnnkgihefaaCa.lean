/- Contracts: small numbers, entries, matrices. -/
import Derived.Test.YtjkemnnkgihefaaRows
import Derived.Test.YtjkemnnkgihefaaBase2
import Derived.Test.YtjkemnnkgihefaaPlain
import Derived.Test.YtjkemnnkgihefaaReg
namespace Go.Proofs.Ytjkemnnkgihefaa
open Go.RowKit

theorem within_any (n a b : Int) (w : World) :
    Calls Try.prog 43 #[(.int .i64 n), (.int .i64 a), (.int .i64 b)] w fun e w' => e = .returned (.bool (inB n a b)) ∧ w = w' := by
  by_cases h1 : a ≤ n <;> by_cases h2 : n ≤ b
  all_goals
    go_enter Try.func43, Try.ntmps43
    go_wp2
    go_ret
    exact ⟨ret_bool (by simp [inB] <;> omega), rfl⟩
theorem l01In_any (n a b : Int) (w : World) :
    Calls Try.prog 35 #[(.int .i64 n), (.int .i64 a), (.int .i64 b)] w fun e w' => e = .returned (.bool (inB n a b)) ∧ w = w' := by
  by_cases h1 : a ≤ n <;> by_cases h2 : n ≤ b
  all_goals
    go_enter Try.func35, Try.ntmps35
    go_wp2
    go_ret
    exact ⟨ret_bool (by simp [inB] <;> omega), rfl⟩
theorem isEntry_any (n : Int) (w : World) :
    Calls Try.prog 67 #[(.int .i64 n)] w fun e w' => e = .returned (.bool (entB n)) ∧ w = w' := by
  go_enter Try.func67, Try.ntmps67
  go_wp2_with (go_at_call 43; refine (within_any _ _ _ _).mono ?_; rintro e w' ⟨rfl, rfl⟩)
  go_ret
  exact ⟨rfl, rfl⟩
theorem l01Entry_any (n : Int) (w : World) :
    Calls Try.prog 63 #[(.int .i64 n)] w fun e w' => e = .returned (.bool (entB n)) ∧ w = w' := by
  go_enter Try.func63, Try.ntmps63
  go_wp2_with (go_at_call 35; refine (l01In_any _ _ _ _).mono ?_; rintro e w' ⟨rfl, rfl⟩)
  go_ret
  exact ⟨rfl, rfl⟩

/-- areEntries over a row that lies in memory. -/
theorem areEntries_any (b off cap n : Nat) (f : Nat → Int) (w : World) (hm : n ≤ 1000000) (hc : ∀ i, i < n → w.cell? ⟨b, off + i, none⟩ = some (.int .i64 (f i))) :
    Calls Try.prog 55 #[.slice (some ⟨b, off, none⟩) n cap] w fun e w' => e = .returned (.bool (allB n fun i => entB (f i))) ∧ w = w' := by
  have H := Lib.hid hc
  clear hc
  go_enter Try.func55, Try.ntmps55
  go_wp2
  go_loop [7] (fun i => ∃ k : Nat, k ≤ n ∧ i = (.int .i64 k) ∧ (allB k fun i => entB (f i)) = true) (fun i => n - (intOf i).toNat)
  case atStart => exact ⟨0, Nat.zero_le _, rfl, rfl⟩
  case round =>
    obtain ⟨k, hk, rfl, hp⟩ := hrel
    have HP := Lib.hid hp
    clear hp
    by_cases hlt : k < n
    · have hck := H.out k hlt
      generalize hx : f k = x at hck
      have HX := Lib.hid hx
      clear hx
      cases he : entB x
      · go_wp2_with (go_at_call 67; refine (isEntry_any _ _).mono ?_; rintro e w' ⟨rfl, rfl⟩)
        go_ret
        exact ⟨ret_bool (allB_false hlt (by rw [HX.out]; exact he)).symm, rfl⟩
      · go_wp2_with (go_at_call 67; refine (isEntry_any _ _).mono ?_; rintro e w' ⟨rfl, rfl⟩)
        go_round
        case rel => exact ⟨k + 1, by omega, by go_num, allB_succ HP.out (by rw [HX.out]; exact he)⟩
        case measure => simp [intOf]; omega
    · go_wp2
      go_ret
      have : k = n := by omega
      subst this
      exact ⟨ret_bool HP.out.symm, rfl⟩
end Go.Proofs.Ytjkemnnkgihefaa
/- Contracts: matrices. -/
namespace Go.Proofs.Ytjkemnnkgihefaa
open Go.RowKit

set_option maxRecDepth 100000 in
theorem eqMat (a b c d a' b' c' d' : Int) (w : World) : (Op.equalIn 10000 42 (.agg #[.int .i64 a, .int .i64 b, .int .i64 c, .int .i64 d]) (.agg #[.int .i64 a', .int .i64 b', .int .i64 c', .int .i64 d'])).run Try.prog w = .ok (a == a' && (b == b' && (c == c' && d == d'))) w :=
  run_equalIn_arr4 Try.underlying42 ⟨_, rfl⟩ Try.underlying2 (by kernel_rfl) (fun x y z u w => ⟨by kernel_rfl, by kernel_rfl, by kernel_rfl, by kernel_rfl⟩) a b c d a' b' c' d' w
attribute [local go_sem] eqMat

theorem size_any (n : Int) (w : World) (h0 : -9000000000000000000 ≤ n) (h1 : n ≤ 9000000000000000000) :
    Calls Try.prog 66 #[(.int .i64 n)] w fun e w' => e = .returned (.int .i64 ((n.natAbs : Int))) ∧ w = w' := by
  by_cases h : n < 0
  all_goals
    go_enter Try.func66, Try.ntmps66
    go_wp2
    go_ret
    exact ⟨ret_int (by omega), rfl⟩
theorem allB4 (a b c d : Int) : (allB 4 fun i => entB (if i = 0 then a else if i = 1 then b else if i = 2 then c else d)) = (entB a && (entB b && (entB c && entB d))) := by
  simp [allB, List.range_succ]
theorem IsMatrix_any (a b c d : Int) (w : World) :
    Calls Try.prog 51 #[(.agg #[.int .i64 a, .int .i64 b, .int .i64 c, .int .i64 d])] w fun e w' => e = .returned (.bool (isMat a b c d)) ∧ Below w.heap.size w w' := by
  cases he : (entB a && (entB b && (entB c && entB d)))
  · have HE := Lib.hid he
    go_enter Try.func51, Try.ntmps51
    go_wp2_with (go_at_call 55; refine (areEntries_any _ _ _ 4 (fun i => if i = 0 then a else if i = 1 then b else if i = 2 then c else d) _ (by omega) (by intro i hi; rcases (show i = 0 ∨ i = 1 ∨ i = 2 ∨ i = 3 by omega) with rfl | rfl | rfl | rfl <;> simp)).mono ?_; rw [allB4, HE.out]; rintro e w' ⟨rfl, rfl⟩)
    go_ret
    exact ⟨ret_bool (by have := HE.out; simp only [isMat]; revert this; cases entB a <;> cases entB b <;> cases entB c <;> cases entB d <;> simp), by go_grown⟩
  · have HE := Lib.hid he
    simp only [Bool.and_eq_true, entB_iff] at he
    obtain ⟨⟨a0, a1⟩, ⟨b0, b1⟩, ⟨c0, c1⟩, d0, d1⟩ := he
    obtain ⟨x0, x1⟩ := mul_bd (a := a) (b := d) (A := 1000000000) (B := 1000000000) a0 a1 d0 d1
    obtain ⟨y0, y1⟩ := mul_bd (a := b) (b := c) (A := 1000000000) (B := 1000000000) b0 b1 c0 c1
    go_enter Try.func51, Try.ntmps51
    go_wp2_with (go_at_call 55; refine (areEntries_any _ _ _ 4 (fun i => if i = 0 then a else if i = 1 then b else if i = 2 then c else d) _ (by omega) (by intro i hi; rcases (show i = 0 ∨ i = 1 ∨ i = 2 ∨ i = 3 by omega) with rfl | rfl | rfl | rfl <;> simp)).mono ?_; rw [allB4, HE.out]; rintro e w' ⟨rfl, rfl⟩)
    go_ret
    exact ⟨ret_bool (by have := HE.out; simp only [Bool.and_eq_true] at this; obtain ⟨p, q, r, s⟩ := this; simp [isMat, p, q, r, s]), by go_grown⟩
end Go.Proofs.Ytjkemnnkgihefaa
/- Contracts: arrays copied and compared by the laws; forms. -/
namespace Go.Proofs.Ytjkemnnkgihefaa
open Go.RowKit

end Go.Proofs.Ytjkemnnkgihefaa
/- Contracts: rests, quotients, greatest common divisors, kinds. -/
namespace Go.Proofs.Ytjkemnnkgihefaa
open Go.RowKit
attribute [local go_sem] eqMat
set_option maxHeartbeats 400000 in
theorem divisor_any (a b : Int) (w : World) (a0 : -9000000000000000000 ≤ a) (a1 : a ≤ 9000000000000000000) (b0 : -9000000000000000000 ≤ b) (b1 : b ≤ 9000000000000000000) :
    Calls Try.prog 44 #[(.int .i64 a), (.int .i64 b)] w fun e w' => e = .returned (.int .i64 ((Int.gcd a b : Int))) ∧ Below w.heap.size w w' := by
  go_enter Try.func44, Try.ntmps44
  go_wp2
  go_loopw [0, 1] (fun x y wr => ∃ p q : Int, x = (.int .i64 p) ∧ y = (.int .i64 q) ∧ (-9000000000000000000 ≤ p ∧ p ≤ 9000000000000000000 ∧ -9000000000000000000 ≤ q ∧ q ≤ 9000000000000000000) ∧ Hid (Int.gcd p q = Int.gcd a b) ∧ Below w.heap.size w wr) (fun _ y _ => (intOf y).natAbs)
  case atStart => exact ⟨_, _, rfl, rfl, ⟨a0, a1, b0, b1⟩, Lib.hid rfl, Below.refl _ _⟩
  case round =>
    obtain ⟨p, q, rfl, rfl, ⟨p0, p1, q0, q1⟩, hg, hb⟩ := hrel
    by_cases hq : q = 0
    · subst hq
      go_wp2_with fail
      refine (size_any _ _ p0 p1).mono ?_; rintro e w' ⟨rfl, rfl⟩
      go_wp2_with fail
      go_ret
      exact ⟨ret_int (by rw [← hg.out]; simp), hb⟩
    · have hl := @tmod_lt p q hq
      have hs := @tmod_small p q 9000000000000000000 hq q0 q1
      go_wp2_with fail
      go_quiet (fail)
      go_wp2_with fail
      go_roundw
      case rel => exact ⟨_, _, rfl, rfl, ⟨q0, q1, hs.1, hs.2⟩, Lib.hid (by rw [gcd_step hq]; exact hg.out), below_drewN hb _⟩
      case measure => simpa [intOf] using hl
set_option maxHeartbeats 400000 in
theorem l01Gcd_any (a b : Int) (w : World) (a0 : -9000000000000000000 ≤ a) (a1 : a ≤ 9000000000000000000) (b0 : -9000000000000000000 ≤ b) (b1 : b ≤ 9000000000000000000) :
    Calls Try.prog 47 #[(.int .i64 a), (.int .i64 b)] w fun e w' => e = .returned (.int .i64 ((Int.gcd a b : Int))) ∧ Below w.heap.size w w' := by
  go_enter Try.func47, Try.ntmps47
  go_wp2
  go_loopw [0, 1] (fun x y wr => ∃ p q : Int, x = (.int .i64 p) ∧ y = (.int .i64 q) ∧ (-9000000000000000000 ≤ p ∧ p ≤ 9000000000000000000 ∧ -9000000000000000000 ≤ q ∧ q ≤ 9000000000000000000) ∧ Hid (Int.gcd p q = Int.gcd a b) ∧ Below w.heap.size w wr) (fun _ y _ => (intOf y).natAbs)
  case atStart => exact ⟨_, _, rfl, rfl, ⟨a0, a1, b0, b1⟩, Lib.hid rfl, Below.refl _ _⟩
  case round =>
    obtain ⟨p, q, rfl, rfl, ⟨p0, p1, q0, q1⟩, hg, hb⟩ := hrel
    by_cases hq : q = 0
    · subst hq
      by_cases hp : p < 0
      all_goals
        go_wp2_with fail
        go_ret
        exact ⟨ret_int (by rw [← hg.out]; simp; omega), hb⟩
    · have hl := @tmod_lt p q hq
      have hs := @tmod_small p q 9000000000000000000 hq q0 q1
      go_wp2_with fail
      go_roundw
      case rel => exact ⟨_, _, rfl, rfl, ⟨q0, q1, hs.1, hs.2⟩, Lib.hid (by rw [gcd_step hq]; exact hg.out), hb⟩
      case measure => simpa [intOf] using hl
theorem rest_any (a n : Int) (w : World) (n0 : 0 < n) (n1 : n ≤ 4000000000000000000) :
    Calls Try.prog 58 #[(.int .i64 a), (.int .i64 n)] w fun e w' => e = .returned (.int .i64 (a % n)) ∧ w = w' := by
  obtain ⟨h1, h2⟩ := @tmod_bd a n n0
  have h3 : n ≠ 0 := by omega
  go_enter Try.func58, Try.ntmps58
  go_wp2
  go_ret
  exact ⟨ret_int (rest_eq' n0), rfl⟩
theorem l01Mod_any (a n : Int) (w : World) (n0 : 0 < n) (n1 : n ≤ 4000000000000000000) :
    Calls Try.prog 65 #[(.int .i64 a), (.int .i64 n)] w fun e w' => e = .returned (.int .i64 (a % n)) ∧ w = w' := by
  obtain ⟨h1, h2⟩ := @tmod_bd a n n0
  have h3 : n ≠ 0 := by omega
  go_enter Try.func65, Try.ntmps65
  go_wp2
  go_ret
  exact ⟨ret_int (rest_eq' n0), rfl⟩
end Go.Proofs.Ytjkemnnkgihefaa
