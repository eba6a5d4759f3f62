/- Contracts: small numbers, entries, matrices. -/
import Derived.Test.YtcaiofhdcffogaaGreatRows
import Derived.Test.YtcaiofhdcffogaaGreatBase2
import Derived.Test.YtcaiofhdcffogaaGreatNa
import Derived.Test.YtcaiofhdcffogaaGreatReg
namespace Go.Proofs.YtcaiofhdcffogaaGreat
open Go.RowKit

theorem within_any (n a b : Int) (w : World) :
    Calls Tryz.prog 37 #[(.int .i64 n), (.int .i64 a), (.int .i64 b)] w fun e w' => e = .returned (.bool (inB n a b)) ∧ w = w' := by
  by_cases h1 : a ≤ n <;> by_cases h2 : n ≤ b
  all_goals
    go_enter Tryz.func37, Tryz.ntmps37
    go_wp2
    go_ret
    exact ⟨ret_bool (by simp [inB] <;> omega), rfl⟩
theorem l01In_any (n a b : Int) (w : World) :
    Calls Tryz.prog 51 #[(.int .i64 n), (.int .i64 a), (.int .i64 b)] w fun e w' => e = .returned (.bool (inB n a b)) ∧ w = w' := by
  by_cases h1 : a ≤ n <;> by_cases h2 : n ≤ b
  all_goals
    go_enter Tryz.func51, Tryz.ntmps51
    go_wp2
    go_ret
    exact ⟨ret_bool (by simp [inB] <;> omega), rfl⟩
theorem isEntry_any (n : Int) (w : World) :
    Calls Tryz.prog 105 #[(.int .i64 n)] w fun e w' => e = .returned (.bool (entB n)) ∧ w = w' := by
  go_enter Tryz.func105, Tryz.ntmps105
  go_wp2_with (go_at_call 37; refine (within_any _ _ _ _).mono ?_; rintro e w' ⟨rfl, rfl⟩)
  go_ret
  exact ⟨rfl, rfl⟩
theorem l01Entry_any (n : Int) (w : World) :
    Calls Tryz.prog 86 #[(.int .i64 n)] w fun e w' => e = .returned (.bool (entB n)) ∧ w = w' := by
  go_enter Tryz.func86, Tryz.ntmps86
  go_wp2_with (go_at_call 51; refine (l01In_any _ _ _ _).mono ?_; rintro e w' ⟨rfl, rfl⟩)
  go_ret
  exact ⟨rfl, rfl⟩

/-- areEntries over a row that lies in memory. -/
theorem areEntries_any (b off cap n : Nat) (f : Nat → Int) (w : World) (hm : n ≤ 1000000) (hc : ∀ i, i < n → w.cell? ⟨b, off + i, none⟩ = some (.int .i64 (f i))) :
    Calls Tryz.prog 88 #[.slice (some ⟨b, off, none⟩) n cap] w fun e w' => e = .returned (.bool (allB n fun i => entB (f i))) ∧ w = w' := by
  have H := Lib.hid hc
  clear hc
  go_enter Tryz.func88, Tryz.ntmps88
  go_wp2
  go_loop [7] (fun i => ∃ k : Nat, k ≤ n ∧ i = (.int .i64 k) ∧ (allB k fun i => entB (f i)) = true) (fun i => n - (intOf i).toNat)
  case atStart => exact ⟨0, Nat.zero_le _, rfl, rfl⟩
  case round =>
    obtain ⟨k, hk, rfl, hp⟩ := hrel
    have HP := Lib.hid hp
    clear hp
    by_cases hlt : k < n
    · have hck := H.out k hlt
      generalize hx : f k = x at hck
      have HX := Lib.hid hx
      clear hx
      cases he : entB x
      · go_wp2_with (go_at_call 105; refine (isEntry_any _ _).mono ?_; rintro e w' ⟨rfl, rfl⟩)
        go_ret
        exact ⟨ret_bool (allB_false hlt (by rw [HX.out]; exact he)).symm, rfl⟩
      · go_wp2_with (go_at_call 105; refine (isEntry_any _ _).mono ?_; rintro e w' ⟨rfl, rfl⟩)
        go_round
        case rel => exact ⟨k + 1, by omega, by go_num, allB_succ HP.out (by rw [HX.out]; exact he)⟩
        case measure => simp [intOf]; omega
    · go_wp2
      go_ret
      have : k = n := by omega
      subst this
      exact ⟨ret_bool HP.out.symm, rfl⟩
end Go.Proofs.YtcaiofhdcffogaaGreat
/- Contracts: matrices. -/
namespace Go.Proofs.YtcaiofhdcffogaaGreat
open Go.RowKit

set_option maxRecDepth 100000 in
theorem eqMat (a b c d a' b' c' d' : Int) (w : World) : (Op.equalIn 10000 28 (.agg #[.int .i64 a, .int .i64 b, .int .i64 c, .int .i64 d]) (.agg #[.int .i64 a', .int .i64 b', .int .i64 c', .int .i64 d'])).run Tryz.prog w = .ok (a == a' && (b == b' && (c == c' && d == d'))) w :=
  run_equalIn_arr4 Tryz.underlying28 ⟨_, rfl⟩ Tryz.underlying2 (by kernel_rfl) (fun x y z u w => ⟨by kernel_rfl, by kernel_rfl, by kernel_rfl, by kernel_rfl⟩) a b c d a' b' c' d' w
attribute [local go_sem] eqMat

theorem size_any (n : Int) (w : World) (h0 : -9000000000000000000 ≤ n) (h1 : n ≤ 9000000000000000000) :
    Calls Tryz.prog 66 #[(.int .i64 n)] w fun e w' => e = .returned (.int .i64 ((n.natAbs : Int))) ∧ w = w' := by
  by_cases h : n < 0
  all_goals
    go_enter Tryz.func66, Tryz.ntmps66
    go_wp2
    go_ret
    exact ⟨ret_int (by omega), rfl⟩
theorem l01Trace_any (a b c d : Int) (w : World) (h : IsMat a b c d) :
    Calls Tryz.prog 106 #[(.agg #[.int .i64 a, .int .i64 b, .int .i64 c, .int .i64 d])] w fun e w' => e = .returned (.int .i64 (a + d)) ∧ Below w.heap.size w w' := by
  obtain ⟨h1, h2, _, _, _, _, h3, h4, _⟩ := h
  go_enter Tryz.func106, Tryz.ntmps106
  go_wp2
  go_ret
  exact ⟨rfl, by go_grown⟩
theorem identity_any (w : World) :
    Calls Tryz.prog 62 #[] w fun e w' => e = .returned (.agg #[.int .i64 1, .int .i64 0, .int .i64 0, .int .i64 1]) ∧ Below w.heap.size w w' := by
  go_enter Tryz.func62, Tryz.ntmps62
  go_wp2
  go_returns
  exact ⟨rfl, by go_grown⟩
theorem allB4 (a b c d : Int) : (allB 4 fun i => entB (if i = 0 then a else if i = 1 then b else if i = 2 then c else d)) = (entB a && (entB b && (entB c && entB d))) := by
  simp [allB, List.range_succ]
theorem IsMatrix_any (a b c d : Int) (w : World) :
    Calls Tryz.prog 70 #[(.agg #[.int .i64 a, .int .i64 b, .int .i64 c, .int .i64 d])] w fun e w' => e = .returned (.bool (isMat a b c d)) ∧ Below w.heap.size w w' := by
  cases he : (entB a && (entB b && (entB c && entB d)))
  · have HE := Lib.hid he
    go_enter Tryz.func70, Tryz.ntmps70
    go_wp2_with (go_at_call 88; refine (areEntries_any _ _ _ 4 (fun i => if i = 0 then a else if i = 1 then b else if i = 2 then c else d) _ (by omega) (by intro i hi; rcases (show i = 0 ∨ i = 1 ∨ i = 2 ∨ i = 3 by omega) with rfl | rfl | rfl | rfl <;> simp)).mono ?_; rw [allB4, HE.out]; rintro e w' ⟨rfl, rfl⟩)
    go_ret
    exact ⟨ret_bool (by have := HE.out; simp only [isMat]; revert this; cases entB a <;> cases entB b <;> cases entB c <;> cases entB d <;> simp), by go_grown⟩
  · have HE := Lib.hid he
    simp only [Bool.and_eq_true, entB_iff] at he
    obtain ⟨⟨a0, a1⟩, ⟨b0, b1⟩, ⟨c0, c1⟩, d0, d1⟩ := he
    obtain ⟨x0, x1⟩ := mul_bd (a := a) (b := d) (A := 1000000000) (B := 1000000000) a0 a1 d0 d1
    obtain ⟨y0, y1⟩ := mul_bd (a := b) (b := c) (A := 1000000000) (B := 1000000000) b0 b1 c0 c1
    go_enter Tryz.func70, Tryz.ntmps70
    go_wp2_with (go_at_call 88; refine (areEntries_any _ _ _ 4 (fun i => if i = 0 then a else if i = 1 then b else if i = 2 then c else d) _ (by omega) (by intro i hi; rcases (show i = 0 ∨ i = 1 ∨ i = 2 ∨ i = 3 by omega) with rfl | rfl | rfl | rfl <;> simp)).mono ?_; rw [allB4, HE.out]; rintro e w' ⟨rfl, rfl⟩)
    go_ret
    exact ⟨ret_bool (by have := HE.out; simp only [Bool.and_eq_true] at this; obtain ⟨p, q, r, s⟩ := this; simp [isMat, p, q, r, s]), by go_grown⟩
theorem l01Is_any (a b c d : Int) (w : World) :
    Calls Tryz.prog 77 #[(.agg #[.int .i64 a, .int .i64 b, .int .i64 c, .int .i64 d])] w fun e w' => e = .returned (.bool (isMat a b c d)) ∧ Below w.heap.size w w' := by
  cases ha : entB a
  · go_enter Tryz.func77, Tryz.ntmps77
    go_wp2_with (go_at_call 86; refine (l01Entry_any _ _).mono ?_; rintro e w' ⟨rfl, rfl⟩)
    go_ret
    exact ⟨ret_bool (by simp [isMat, ha]), by go_grown⟩
  cases hb : entB b
  · go_enter Tryz.func77, Tryz.ntmps77
    go_wp2_with (go_at_call 86; refine (l01Entry_any _ _).mono ?_; rintro e w' ⟨rfl, rfl⟩)
    go_ret
    exact ⟨ret_bool (by simp [isMat, hb]), by go_grown⟩
  cases hc : entB c
  · go_enter Tryz.func77, Tryz.ntmps77
    go_wp2_with (go_at_call 86; refine (l01Entry_any _ _).mono ?_; rintro e w' ⟨rfl, rfl⟩)
    go_ret
    exact ⟨ret_bool (by simp [isMat, hc]), by go_grown⟩
  cases hd : entB d
  · go_enter Tryz.func77, Tryz.ntmps77
    go_wp2_with (go_at_call 86; refine (l01Entry_any _ _).mono ?_; rintro e w' ⟨rfl, rfl⟩)
    go_ret
    exact ⟨ret_bool (by simp [isMat, hd]), by go_grown⟩
  obtain ⟨x0, x1⟩ := mul_bd (a := a) (b := d) (A := 1000000000) (B := 1000000000) (entB_iff.1 ha).1 (entB_iff.1 ha).2 (entB_iff.1 hd).1 (entB_iff.1 hd).2
  obtain ⟨y0, y1⟩ := mul_bd (a := b) (b := c) (A := 1000000000) (B := 1000000000) (entB_iff.1 hb).1 (entB_iff.1 hb).2 (entB_iff.1 hc).1 (entB_iff.1 hc).2
  go_enter Tryz.func77, Tryz.ntmps77
  go_wp2_with (go_at_call 86; refine (l01Entry_any _ _).mono ?_; rintro e w' ⟨rfl, rfl⟩)
  go_ret
  exact ⟨ret_bool (by simp [isMat, ha, hb, hc, hd]), by go_grown⟩
end Go.Proofs.YtcaiofhdcffogaaGreat
/- Contracts: arrays copied and compared by the laws; forms. -/
namespace Go.Proofs.YtcaiofhdcffogaaGreat
open Go.RowKit
set_option maxRecDepth 100000 in
theorem eqForm3 (a b c a' b' c' : Int) (w : World) : (Op.equalIn 10000 25 (.agg #[.int .i64 a, .int .i64 b, .int .i64 c]) (.agg #[.int .i64 a', .int .i64 b', .int .i64 c'])).run Tryz.prog w = .ok (a == a' && (b == b' && c == c')) w :=
  run_equalIn_arr3 Tryz.underlying25 ⟨_, rfl⟩ Tryz.underlying2 (by kernel_rfl) (fun x y z w => ⟨by kernel_rfl, by kernel_rfl, by kernel_rfl⟩) a b c a' b' c' w
theorem idxForm0 (x y z : Value) (w : World) : (Instr.index 25 (.agg #[x, y, z]) (.int .i64 0)).run Tryz.prog w = .ok x w := by kernel_rfl
theorem idxForm1 (x y z : Value) (w : World) : (Instr.index 25 (.agg #[x, y, z]) (.int .i64 1)).run Tryz.prog w = .ok y w := by kernel_rfl
theorem idxForm2 (x y z : Value) (w : World) : (Instr.index 25 (.agg #[x, y, z]) (.int .i64 2)).run Tryz.prog w = .ok z w := by kernel_rfl
attribute [local go_sem] eqForm3 idxForm0 idxForm1 idxForm2

theorem IsForm_any (a b c : Int) (w : World) :
    Calls Tryz.prog 8 #[(.agg #[.int .i64 a, .int .i64 b, .int .i64 c])] w fun e w' => e = .returned (.bool (isForm a b c)) ∧ Below w.heap.size w w' := by
  cases ha : inB a (-1000000) 1000000
  · go_enter Tryz.func8, Tryz.ntmps8
    go_wp2
    refine wp_loop_rounds 4 ?_
    repeat any_goals (rw [rounds_succ]; go_wp2_with (go_at_call 37; refine (within_any _ _ _ _).mono ?_; rintro e w' ⟨rfl, rfl⟩))
    go_ret
    exact ⟨ret_bool (by simp [isForm, ha]), by go_grown⟩
  cases hb : inB b (-1000000) 1000000
  · go_enter Tryz.func8, Tryz.ntmps8
    go_wp2
    refine wp_loop_rounds 4 ?_
    repeat any_goals (rw [rounds_succ]; go_wp2_with (go_at_call 37; refine (within_any _ _ _ _).mono ?_; rintro e w' ⟨rfl, rfl⟩))
    go_ret
    exact ⟨ret_bool (by simp [isForm, hb]), by go_grown⟩
  cases hc : inB c (-1000000) 1000000
  · go_enter Tryz.func8, Tryz.ntmps8
    go_wp2
    refine wp_loop_rounds 4 ?_
    repeat any_goals (rw [rounds_succ]; go_wp2_with (go_at_call 37; refine (within_any _ _ _ _).mono ?_; rintro e w' ⟨rfl, rfl⟩))
    go_ret
    exact ⟨ret_bool (by simp [isForm, hc]), by go_grown⟩
  go_enter Tryz.func8, Tryz.ntmps8
  go_wp2
  refine wp_loop_rounds 4 ?_
  repeat any_goals (rw [rounds_succ]; go_wp2_with (go_at_call 37; refine (within_any _ _ _ _).mono ?_; rintro e w' ⟨rfl, rfl⟩))
  go_ret
  exact ⟨ret_bool (by simp [isForm, ha, hb, hc]), by go_grown⟩
theorem l05Is_any (a b c : Int) (w : World) :
    Calls Tryz.prog 34 #[(.agg #[.int .i64 a, .int .i64 b, .int .i64 c])] w fun e w' => e = .returned (.bool (isForm a b c)) ∧ Below w.heap.size w w' := by
  cases ha : inB a (-1000000) 1000000
  · go_enter Tryz.func34, Tryz.ntmps34
    go_wp2
    refine wp_loop_rounds 4 ?_
    repeat any_goals (rw [rounds_succ]; go_wp2_with (go_at_call 51; refine (l01In_any _ _ _ _).mono ?_; rintro e w' ⟨rfl, rfl⟩))
    go_ret
    exact ⟨ret_bool (by simp [isForm, ha]), by go_grown⟩
  cases hb : inB b (-1000000) 1000000
  · go_enter Tryz.func34, Tryz.ntmps34
    go_wp2
    refine wp_loop_rounds 4 ?_
    repeat any_goals (rw [rounds_succ]; go_wp2_with (go_at_call 51; refine (l01In_any _ _ _ _).mono ?_; rintro e w' ⟨rfl, rfl⟩))
    go_ret
    exact ⟨ret_bool (by simp [isForm, hb]), by go_grown⟩
  cases hc : inB c (-1000000) 1000000
  · go_enter Tryz.func34, Tryz.ntmps34
    go_wp2
    refine wp_loop_rounds 4 ?_
    repeat any_goals (rw [rounds_succ]; go_wp2_with (go_at_call 51; refine (l01In_any _ _ _ _).mono ?_; rintro e w' ⟨rfl, rfl⟩))
    go_ret
    exact ⟨ret_bool (by simp [isForm, hc]), by go_grown⟩
  go_enter Tryz.func34, Tryz.ntmps34
  go_wp2
  refine wp_loop_rounds 4 ?_
  repeat any_goals (rw [rounds_succ]; go_wp2_with (go_at_call 51; refine (l01In_any _ _ _ _).mono ?_; rintro e w' ⟨rfl, rfl⟩))
  go_ret
  exact ⟨ret_bool (by simp [isForm, ha, hb, hc]), by go_grown⟩
theorem sIsForm_any (a b c : Int) (w : World) :
    Calls Tryz.prog 9 #[(.agg #[.int .i64 a, .int .i64 b, .int .i64 c])] w fun e w' => e = .returned (.bool (isForm a b c)) ∧ Below w.heap.size w w' := by
  go_enter Tryz.func9, Tryz.ntmps9
  go_wp2_with (go_at_call 34; refine (l05Is_any _ _ _ _).mono ?_; rintro e w' ⟨rfl, hb⟩)
  go_ret
  exact ⟨rfl, ((Below.refl _ _).alloc (Nat.le_refl _) _).trans (hb.mono (by simp))⟩
end Go.Proofs.YtcaiofhdcffogaaGreat
/- Contracts: rests, quotients, greatest common divisors, kinds. -/
namespace Go.Proofs.YtcaiofhdcffogaaGreat
open Go.RowKit
attribute [local go_sem] eqMat
set_option maxHeartbeats 400000 in
theorem l01Gcd_any (a b : Int) (w : World) (a0 : -9000000000000000000 ≤ a) (a1 : a ≤ 9000000000000000000) (b0 : -9000000000000000000 ≤ b) (b1 : b ≤ 9000000000000000000) :
    Calls Tryz.prog 103 #[(.int .i64 a), (.int .i64 b)] w fun e w' => e = .returned (.int .i64 ((Int.gcd a b : Int))) ∧ Below w.heap.size w w' := by
  go_enter Tryz.func103, Tryz.ntmps103
  go_wp2
  go_loopw [0, 1] (fun x y wr => ∃ p q : Int, x = (.int .i64 p) ∧ y = (.int .i64 q) ∧ (-9000000000000000000 ≤ p ∧ p ≤ 9000000000000000000 ∧ -9000000000000000000 ≤ q ∧ q ≤ 9000000000000000000) ∧ Hid (Int.gcd p q = Int.gcd a b) ∧ Below w.heap.size w wr) (fun _ y _ => (intOf y).natAbs)
  case atStart => exact ⟨_, _, rfl, rfl, ⟨a0, a1, b0, b1⟩, Lib.hid rfl, Below.refl _ _⟩
  case round =>
    obtain ⟨p, q, rfl, rfl, ⟨p0, p1, q0, q1⟩, hg, hb⟩ := hrel
    by_cases hq : q = 0
    · subst hq
      by_cases hp : p < 0
      all_goals
        go_wp2_with fail
        go_ret
        exact ⟨ret_int (by rw [← hg.out]; simp; omega), hb⟩
    · have hl := @tmod_lt p q hq
      have hs := @tmod_small p q 9000000000000000000 hq q0 q1
      go_wp2_with fail
      go_roundw
      case rel => exact ⟨_, _, rfl, rfl, ⟨q0, q1, hs.1, hs.2⟩, Lib.hid (by rw [gcd_step hq]; exact hg.out), hb⟩
      case measure => simpa [intOf] using hl
theorem rest_any (a n : Int) (w : World) (n0 : 0 < n) (n1 : n ≤ 4000000000000000000) :
    Calls Tryz.prog 89 #[(.int .i64 a), (.int .i64 n)] w fun e w' => e = .returned (.int .i64 (a % n)) ∧ w = w' := by
  obtain ⟨h1, h2⟩ := @tmod_bd a n n0
  have h3 : n ≠ 0 := by omega
  go_enter Tryz.func89, Tryz.ntmps89
  go_wp2
  go_ret
  exact ⟨ret_int (rest_eq' n0), rfl⟩
theorem l01Mod_any (a n : Int) (w : World) (n0 : 0 < n) (n1 : n ≤ 4000000000000000000) :
    Calls Tryz.prog 85 #[(.int .i64 a), (.int .i64 n)] w fun e w' => e = .returned (.int .i64 (a % n)) ∧ w = w' := by
  obtain ⟨h1, h2⟩ := @tmod_bd a n n0
  have h3 : n ≠ 0 := by omega
  go_enter Tryz.func85, Tryz.ntmps85
  go_wp2
  go_ret
  exact ⟨ret_int (rest_eq' n0), rfl⟩
theorem floor_any (a b : Int) (w : World) (a0 : -9000000000000000000 ≤ a) (a1 : a ≤ 9000000000000000000) (b0 : 0 < b) (b1 : b ≤ 9000000000000000000) :
    Calls Tryz.prog 63 #[(.int .i64 a), (.int .i64 b)] w fun e w' => e = .returned (.int .i64 (a / b)) ∧ w = w' := by
  have hne : b ≠ 0 := by omega
  have hb1 : -9223372036854775808 ≤ a.tdiv b - 1 ∧ a.tdiv b ≤ 9223372036854775807 := by
    have := Int.natAbs_tdiv a b
    have h2 : a.natAbs / b.natAbs ≤ a.natAbs := Nat.div_le_self _ _
    have h3 : (a.tdiv b).natAbs = a.natAbs / b.natAbs := by rw [this]; rfl
    omega
  obtain ⟨hb2, hb3⟩ := hb1
  have hb4 : ¬ b < 0 := by omega
  by_cases hz : a.tmod b = 0
  · have hz' : (a.tmod b != 0) = false := by simp [hz]
    have HZ := Lib.hid hz
    clear hz
    by_cases ha : a < 0
    all_goals
      go_enter Tryz.func63, Tryz.ntmps63
      go_wp2
      all_goals
        go_ret
        exact ⟨ret_int (by first | rfl | exact floor_z HZ.out), rfl⟩
  · have hz' : (a.tmod b != 0) = true := by simp [hz]
    by_cases ha : a < 0
    · go_enter Tryz.func63, Tryz.ntmps63
      go_wp2
      go_ret
      exact ⟨ret_int (floor_t b0 hz ha), rfl⟩
    · go_enter Tryz.func63, Tryz.ntmps63
      go_wp2
      all_goals
        go_ret
        exact ⟨ret_int (by first | rfl | exact floor_p (by omega)), rfl⟩
theorem l01Floor_any (a b : Int) (w : World) (a0 : -4000000000000000000 ≤ a) (a1 : a ≤ 4000000000000000000) (b0 : 0 < b) (b1 : b ≤ 4000000000000000000) :
    Calls Tryz.prog 67 #[(.int .i64 a), (.int .i64 b)] w fun e w' => e = .returned (.int .i64 (a / b)) ∧ w = w' := by
  have h1 := Int.emod_nonneg a (show b ≠ 0 by omega)
  have h2 := Int.emod_lt_of_pos a b0
  have h3 : b ≠ 0 := by omega
  have he : (a - a % b).tdiv b = a / b := by
    have e : a - a % b = b * (a / b) := by have := Int.emod_def a b; omega
    rw [e, Int.mul_tdiv_cancel_left _ h3]
  obtain ⟨h4, h5⟩ := @ediv_bd a b 4000000000000000000 b0 a0 a1
  go_enter Tryz.func67, Tryz.ntmps67
  go_wp2_with fail
  refine (l01Mod_any _ _ _ b0 (by omega)).mono ?_; rintro e w' ⟨rfl, rfl⟩
  go_wp2
  go_ret
  exact ⟨rfl, rfl⟩
end Go.Proofs.YtcaiofhdcffogaaGreat
