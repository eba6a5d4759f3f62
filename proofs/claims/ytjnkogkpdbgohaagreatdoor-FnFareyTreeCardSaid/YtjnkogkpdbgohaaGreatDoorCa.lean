/- Contracts: small numbers, entries, matrices. -/
import Derived.Test.YtjnkogkpdbgohaaGreatDoorRows
import Derived.Test.YtjnkogkpdbgohaaGreatDoorBase2
import Derived.Test.YtjnkogkpdbgohaaGreatDoorNa
import Derived.Test.YtjnkogkpdbgohaaGreatDoorReg
namespace Go.Proofs.YtjnkogkpdbgohaaGreatDoor
open Go.RowKit

theorem within_any (n a b : Int) (w : World) :
    Calls Tryz.prog 34 #[(.int .i64 n), (.int .i64 a), (.int .i64 b)] w fun e w' => e = .returned (.bool (inB n a b)) ∧ w = w' := by
  by_cases h1 : a ≤ n <;> by_cases h2 : n ≤ b
  all_goals
    go_enter Tryz.func34, Tryz.ntmps34
    go_wp2
    go_ret
    exact ⟨ret_bool (by simp [inB] <;> omega), rfl⟩
theorem l01In_any (n a b : Int) (w : World) :
    Calls Tryz.prog 36 #[(.int .i64 n), (.int .i64 a), (.int .i64 b)] w fun e w' => e = .returned (.bool (inB n a b)) ∧ w = w' := by
  by_cases h1 : a ≤ n <;> by_cases h2 : n ≤ b
  all_goals
    go_enter Tryz.func36, Tryz.ntmps36
    go_wp2
    go_ret
    exact ⟨ret_bool (by simp [inB] <;> omega), rfl⟩
theorem isEntry_any (n : Int) (w : World) :
    Calls Tryz.prog 84 #[(.int .i64 n)] w fun e w' => e = .returned (.bool (entB n)) ∧ w = w' := by
  go_enter Tryz.func84, Tryz.ntmps84
  go_wp2_with (go_at_call 34; refine (within_any _ _ _ _).mono ?_; rintro e w' ⟨rfl, rfl⟩)
  go_ret
  exact ⟨rfl, rfl⟩
theorem l01Entry_any (n : Int) (w : World) :
    Calls Tryz.prog 55 #[(.int .i64 n)] w fun e w' => e = .returned (.bool (entB n)) ∧ w = w' := by
  go_enter Tryz.func55, Tryz.ntmps55
  go_wp2_with (go_at_call 36; refine (l01In_any _ _ _ _).mono ?_; rintro e w' ⟨rfl, rfl⟩)
  go_ret
  exact ⟨rfl, rfl⟩

/-- areEntries over a row that lies in memory. -/
theorem areEntries_any (b off cap n : Nat) (f : Nat → Int) (w : World) (hm : n ≤ 1000000) (hc : ∀ i, i < n → w.cell? ⟨b, off + i, none⟩ = some (.int .i64 (f i))) :
    Calls Tryz.prog 68 #[.slice (some ⟨b, off, none⟩) n cap] w fun e w' => e = .returned (.bool (allB n fun i => entB (f i))) ∧ w = w' := by
  have H := Lib.hid hc
  clear hc
  go_enter Tryz.func68, Tryz.ntmps68
  go_wp2
  go_loop [7] (fun i => ∃ k : Nat, k ≤ n ∧ i = (.int .i64 k) ∧ (allB k fun i => entB (f i)) = true) (fun i => n - (intOf i).toNat)
  case atStart => exact ⟨0, Nat.zero_le _, rfl, rfl⟩
  case round =>
    obtain ⟨k, hk, rfl, hp⟩ := hrel
    have HP := Lib.hid hp
    clear hp
    by_cases hlt : k < n
    · have hck := H.out k hlt
      generalize hx : f k = x at hck
      have HX := Lib.hid hx
      clear hx
      cases he : entB x
      · go_wp2_with (go_at_call 84; refine (isEntry_any _ _).mono ?_; rintro e w' ⟨rfl, rfl⟩)
        go_ret
        exact ⟨ret_bool (allB_false hlt (by rw [HX.out]; exact he)).symm, rfl⟩
      · go_wp2_with (go_at_call 84; refine (isEntry_any _ _).mono ?_; rintro e w' ⟨rfl, rfl⟩)
        go_round
        case rel => exact ⟨k + 1, by omega, by go_num, allB_succ HP.out (by rw [HX.out]; exact he)⟩
        case measure => simp [intOf]; omega
    · go_wp2
      go_ret
      have : k = n := by omega
      subst this
      exact ⟨ret_bool HP.out.symm, rfl⟩
end Go.Proofs.YtjnkogkpdbgohaaGreatDoor
/- Contracts: matrices. -/
namespace Go.Proofs.YtjnkogkpdbgohaaGreatDoor
open Go.RowKit

set_option maxRecDepth 100000 in
theorem eqMat (a b c d a' b' c' d' : Int) (w : World) : (Op.equalIn 10000 94 (.agg #[.int .i64 a, .int .i64 b, .int .i64 c, .int .i64 d]) (.agg #[.int .i64 a', .int .i64 b', .int .i64 c', .int .i64 d'])).run Tryz.prog w = .ok (a == a' && (b == b' && (c == c' && d == d'))) w :=
  run_equalIn_arr4 Tryz.underlying94 ⟨_, rfl⟩ Tryz.underlying2 (by kernel_rfl) (fun x y z u w => ⟨by kernel_rfl, by kernel_rfl, by kernel_rfl, by kernel_rfl⟩) a b c d a' b' c' d' w
attribute [local go_sem] eqMat

theorem size_any (n : Int) (w : World) (h0 : -9000000000000000000 ≤ n) (h1 : n ≤ 9000000000000000000) :
    Calls Tryz.prog 40 #[(.int .i64 n)] w fun e w' => e = .returned (.int .i64 ((n.natAbs : Int))) ∧ w = w' := by
  by_cases h : n < 0
  all_goals
    go_enter Tryz.func40, Tryz.ntmps40
    go_wp2
    go_ret
    exact ⟨ret_int (by omega), rfl⟩
theorem l01Trace_any (a b c d : Int) (w : World) (h : IsMat a b c d) :
    Calls Tryz.prog 121 #[(.agg #[.int .i64 a, .int .i64 b, .int .i64 c, .int .i64 d])] w fun e w' => e = .returned (.int .i64 (a + d)) ∧ Below w.heap.size w w' := by
  obtain ⟨h1, h2, _, _, _, _, h3, h4, _⟩ := h
  go_enter Tryz.func121, Tryz.ntmps121
  go_wp2
  go_ret
  exact ⟨rfl, by go_grown⟩
theorem allB4 (a b c d : Int) : (allB 4 fun i => entB (if i = 0 then a else if i = 1 then b else if i = 2 then c else d)) = (entB a && (entB b && (entB c && entB d))) := by
  simp [allB, List.range_succ]
theorem l01Is_any (a b c d : Int) (w : World) :
    Calls Tryz.prog 93 #[(.agg #[.int .i64 a, .int .i64 b, .int .i64 c, .int .i64 d])] w fun e w' => e = .returned (.bool (isMat a b c d)) ∧ Below w.heap.size w w' := by
  cases ha : entB a
  · go_enter Tryz.func93, Tryz.ntmps93
    go_wp2_with (go_at_call 55; refine (l01Entry_any _ _).mono ?_; rintro e w' ⟨rfl, rfl⟩)
    go_ret
    exact ⟨ret_bool (by simp [isMat, ha]), by go_grown⟩
  cases hb : entB b
  · go_enter Tryz.func93, Tryz.ntmps93
    go_wp2_with (go_at_call 55; refine (l01Entry_any _ _).mono ?_; rintro e w' ⟨rfl, rfl⟩)
    go_ret
    exact ⟨ret_bool (by simp [isMat, hb]), by go_grown⟩
  cases hc : entB c
  · go_enter Tryz.func93, Tryz.ntmps93
    go_wp2_with (go_at_call 55; refine (l01Entry_any _ _).mono ?_; rintro e w' ⟨rfl, rfl⟩)
    go_ret
    exact ⟨ret_bool (by simp [isMat, hc]), by go_grown⟩
  cases hd : entB d
  · go_enter Tryz.func93, Tryz.ntmps93
    go_wp2_with (go_at_call 55; refine (l01Entry_any _ _).mono ?_; rintro e w' ⟨rfl, rfl⟩)
    go_ret
    exact ⟨ret_bool (by simp [isMat, hd]), by go_grown⟩
  obtain ⟨x0, x1⟩ := mul_bd (a := a) (b := d) (A := 1000000000) (B := 1000000000) (entB_iff.1 ha).1 (entB_iff.1 ha).2 (entB_iff.1 hd).1 (entB_iff.1 hd).2
  obtain ⟨y0, y1⟩ := mul_bd (a := b) (b := c) (A := 1000000000) (B := 1000000000) (entB_iff.1 hb).1 (entB_iff.1 hb).2 (entB_iff.1 hc).1 (entB_iff.1 hc).2
  go_enter Tryz.func93, Tryz.ntmps93
  go_wp2_with (go_at_call 55; refine (l01Entry_any _ _).mono ?_; rintro e w' ⟨rfl, rfl⟩)
  go_ret
  exact ⟨ret_bool (by simp [isMat, ha, hb, hc, hd]), by go_grown⟩
end Go.Proofs.YtjnkogkpdbgohaaGreatDoor
/- Contracts: rests, quotients, greatest common divisors, kinds. -/
namespace Go.Proofs.YtjnkogkpdbgohaaGreatDoor
open Go.RowKit
attribute [local go_sem] eqMat
set_option maxHeartbeats 400000 in
theorem divisor_any (a b : Int) (w : World) (a0 : -9000000000000000000 ≤ a) (a1 : a ≤ 9000000000000000000) (b0 : -9000000000000000000 ≤ b) (b1 : b ≤ 9000000000000000000) :
    Calls Tryz.prog 69 #[(.int .i64 a), (.int .i64 b)] w fun e w' => e = .returned (.int .i64 ((Int.gcd a b : Int))) ∧ Below w.heap.size w w' := by
  go_enter Tryz.func69, Tryz.ntmps69
  go_wp2
  go_loopw [0, 1] (fun x y wr => ∃ p q : Int, x = (.int .i64 p) ∧ y = (.int .i64 q) ∧ (-9000000000000000000 ≤ p ∧ p ≤ 9000000000000000000 ∧ -9000000000000000000 ≤ q ∧ q ≤ 9000000000000000000) ∧ Hid (Int.gcd p q = Int.gcd a b) ∧ Below w.heap.size w wr) (fun _ y _ => (intOf y).natAbs)
  case atStart => exact ⟨_, _, rfl, rfl, ⟨a0, a1, b0, b1⟩, Lib.hid rfl, Below.refl _ _⟩
  case round =>
    obtain ⟨p, q, rfl, rfl, ⟨p0, p1, q0, q1⟩, hg, hb⟩ := hrel
    by_cases hq : q = 0
    · subst hq
      go_wp2_with fail
      refine (size_any _ _ p0 p1).mono ?_; rintro e w' ⟨rfl, rfl⟩
      go_wp2_with fail
      go_ret
      exact ⟨ret_int (by rw [← hg.out]; simp), hb⟩
    · have hl := @tmod_lt p q hq
      have hs := @tmod_small p q 9000000000000000000 hq q0 q1
      go_wp2_with fail
      go_quiet (fail)
      go_wp2_with fail
      go_roundw
      case rel => exact ⟨_, _, rfl, rfl, ⟨q0, q1, hs.1, hs.2⟩, Lib.hid (by rw [gcd_step hq]; exact hg.out), below_drewN hb _⟩
      case measure => simpa [intOf] using hl
set_option maxHeartbeats 400000 in
theorem l01Gcd_any (a b : Int) (w : World) (a0 : -9000000000000000000 ≤ a) (a1 : a ≤ 9000000000000000000) (b0 : -9000000000000000000 ≤ b) (b1 : b ≤ 9000000000000000000) :
    Calls Tryz.prog 67 #[(.int .i64 a), (.int .i64 b)] w fun e w' => e = .returned (.int .i64 ((Int.gcd a b : Int))) ∧ Below w.heap.size w w' := by
  go_enter Tryz.func67, Tryz.ntmps67
  go_wp2
  go_loopw [0, 1] (fun x y wr => ∃ p q : Int, x = (.int .i64 p) ∧ y = (.int .i64 q) ∧ (-9000000000000000000 ≤ p ∧ p ≤ 9000000000000000000 ∧ -9000000000000000000 ≤ q ∧ q ≤ 9000000000000000000) ∧ Hid (Int.gcd p q = Int.gcd a b) ∧ Below w.heap.size w wr) (fun _ y _ => (intOf y).natAbs)
  case atStart => exact ⟨_, _, rfl, rfl, ⟨a0, a1, b0, b1⟩, Lib.hid rfl, Below.refl _ _⟩
  case round =>
    obtain ⟨p, q, rfl, rfl, ⟨p0, p1, q0, q1⟩, hg, hb⟩ := hrel
    by_cases hq : q = 0
    · subst hq
      by_cases hp : p < 0
      all_goals
        go_wp2_with fail
        go_ret
        exact ⟨ret_int (by rw [← hg.out]; simp; omega), hb⟩
    · have hl := @tmod_lt p q hq
      have hs := @tmod_small p q 9000000000000000000 hq q0 q1
      go_wp2_with fail
      go_roundw
      case rel => exact ⟨_, _, rfl, rfl, ⟨q0, q1, hs.1, hs.2⟩, Lib.hid (by rw [gcd_step hq]; exact hg.out), hb⟩
      case measure => simpa [intOf] using hl
end Go.Proofs.YtjnkogkpdbgohaaGreatDoor
