/- Contracts: arrays copied and compared by the laws; forms. -/
import Derived.Test.YtmpmphnlollkaaaC2
namespace Go.Proofs.Ytmpmphnlollkaaa
open Go.RowKit
theorem toForm_any (a b c : Int) (w : World) :
    Calls Try.prog 16 #[(.agg #[.int .i64 a, .int .i64 b, .int .i64 c])] w fun e w' => e = .returned (.agg #[.int .i64 a, .int .i64 b, .int .i64 c]) ∧ Below w.heap.size w w' := by
  go_enter Try.func16, Try.ntmps16
  go_wp2
  go_rounds 4
  go_returns
  exact ⟨rfl, by go_grown⟩
theorem toMatrix_any (a b c d : Int) (w : World) :
    Calls Try.prog 23 #[(.agg #[.int .i64 a, .int .i64 b, .int .i64 c, .int .i64 d])] w fun e w' => e = .returned (.agg #[.int .i64 a, .int .i64 b, .int .i64 c, .int .i64 d]) ∧ Below w.heap.size w w' := by
  go_enter Try.func23, Try.ntmps23
  go_wp2
  go_rounds 5
  go_returns
  exact ⟨rfl, by go_grown⟩
theorem eqForm_same (a b c : Int) (w : World) :
    Calls Try.prog 27 #[(.agg #[.int .i64 a, .int .i64 b, .int .i64 c]), (.agg #[.int .i64 a, .int .i64 b, .int .i64 c])] w fun e w' => e = .returned (.bool true) ∧ Below w.heap.size w w' := by
  have h1 : (a != a) = false := by simp
  have h2 : (b != b) = false := by simp
  have h3 : (c != c) = false := by simp
  go_enter Try.func27, Try.ntmps27
  go_wp2
  refine wp_loop_rounds 4 ?_
  iterate 3 (rw [rounds_succ]; go_wp2; go_quiet (fail); go_wp2)
  rw [rounds_succ]; go_wp2
  go_returns
  exact ⟨rfl, below_drewN (by go_grown) _⟩
theorem eqMatrix_same (a b c d : Int) (w : World) :
    Calls Try.prog 32 #[(.agg #[.int .i64 a, .int .i64 b, .int .i64 c, .int .i64 d]), (.agg #[.int .i64 a, .int .i64 b, .int .i64 c, .int .i64 d])] w fun e w' => e = .returned (.bool true) ∧ Below w.heap.size w w' := by
  have h1 : (a != a) = false := by simp
  have h2 : (b != b) = false := by simp
  have h3 : (c != c) = false := by simp
  have h4 : (d != d) = false := by simp
  go_enter Try.func32, Try.ntmps32
  go_wp2
  refine wp_loop_rounds 5 ?_
  iterate 4 (rw [rounds_succ]; go_wp2; go_quiet (fail); go_wp2)
  rw [rounds_succ]; go_wp2
  go_returns
  exact ⟨rfl, below_drewN (by go_grown) _⟩

theorem eqForm3 (a b c a' b' c' : Int) (w : World) : (Op.equalIn 10000 24 (.agg #[.int .i64 a, .int .i64 b, .int .i64 c]) (.agg #[.int .i64 a', .int .i64 b', .int .i64 c'])).run Try.prog w = .ok (a == a' && (b == b' && c == c')) w :=
  run_equalIn_arr3 Try.underlying24 ⟨_, rfl⟩ Try.underlying2 (by kernel_rfl) (fun x y z w => ⟨by kernel_rfl, by kernel_rfl, by kernel_rfl⟩) a b c a' b' c' w
theorem idxForm0 (x y z : Value) (w : World) : (Instr.index 24 (.agg #[x, y, z]) (.int .i64 0)).run Try.prog w = .ok x w := by kernel_rfl
theorem idxForm1 (x y z : Value) (w : World) : (Instr.index 24 (.agg #[x, y, z]) (.int .i64 1)).run Try.prog w = .ok y w := by kernel_rfl
theorem idxForm2 (x y z : Value) (w : World) : (Instr.index 24 (.agg #[x, y, z]) (.int .i64 2)).run Try.prog w = .ok z w := by kernel_rfl
attribute [local go_sem] eqForm3 idxForm0 idxForm1 idxForm2

theorem IsForm_any (a b c : Int) (w : World) :
    Calls Try.prog 17 #[(.agg #[.int .i64 a, .int .i64 b, .int .i64 c])] w fun e w' => e = .returned (.bool (isForm a b c)) ∧ Below w.heap.size w w' := by
  cases ha : inB a (-1000000) 1000000
  · go_enter Try.func17, Try.ntmps17
    go_wp2
    refine wp_loop_rounds 4 ?_
    repeat any_goals (rw [rounds_succ]; go_wp2_with (go_at_call 47; refine (within_any _ _ _ _).mono ?_; rintro e w' ⟨rfl, rfl⟩))
    go_ret
    exact ⟨ret_bool (by simp [isForm, ha]), by go_grown⟩
  cases hb : inB b (-1000000) 1000000
  · go_enter Try.func17, Try.ntmps17
    go_wp2
    refine wp_loop_rounds 4 ?_
    repeat any_goals (rw [rounds_succ]; go_wp2_with (go_at_call 47; refine (within_any _ _ _ _).mono ?_; rintro e w' ⟨rfl, rfl⟩))
    go_ret
    exact ⟨ret_bool (by simp [isForm, hb]), by go_grown⟩
  cases hc : inB c (-1000000) 1000000
  · go_enter Try.func17, Try.ntmps17
    go_wp2
    refine wp_loop_rounds 4 ?_
    repeat any_goals (rw [rounds_succ]; go_wp2_with (go_at_call 47; refine (within_any _ _ _ _).mono ?_; rintro e w' ⟨rfl, rfl⟩))
    go_ret
    exact ⟨ret_bool (by simp [isForm, hc]), by go_grown⟩
  go_enter Try.func17, Try.ntmps17
  go_wp2
  refine wp_loop_rounds 4 ?_
  repeat any_goals (rw [rounds_succ]; go_wp2_with (go_at_call 47; refine (within_any _ _ _ _).mono ?_; rintro e w' ⟨rfl, rfl⟩))
  go_ret
  exact ⟨ret_bool (by simp [isForm, ha, hb, hc]), by go_grown⟩
theorem l05Is_any (a b c : Int) (w : World) :
    Calls Try.prog 46 #[(.agg #[.int .i64 a, .int .i64 b, .int .i64 c])] w fun e w' => e = .returned (.bool (isForm a b c)) ∧ Below w.heap.size w w' := by
  cases ha : inB a (-1000000) 1000000
  · go_enter Try.func46, Try.ntmps46
    go_wp2
    refine wp_loop_rounds 4 ?_
    repeat any_goals (rw [rounds_succ]; go_wp2_with (go_at_call 50; refine (l01In_any _ _ _ _).mono ?_; rintro e w' ⟨rfl, rfl⟩))
    go_ret
    exact ⟨ret_bool (by simp [isForm, ha]), by go_grown⟩
  cases hb : inB b (-1000000) 1000000
  · go_enter Try.func46, Try.ntmps46
    go_wp2
    refine wp_loop_rounds 4 ?_
    repeat any_goals (rw [rounds_succ]; go_wp2_with (go_at_call 50; refine (l01In_any _ _ _ _).mono ?_; rintro e w' ⟨rfl, rfl⟩))
    go_ret
    exact ⟨ret_bool (by simp [isForm, hb]), by go_grown⟩
  cases hc : inB c (-1000000) 1000000
  · go_enter Try.func46, Try.ntmps46
    go_wp2
    refine wp_loop_rounds 4 ?_
    repeat any_goals (rw [rounds_succ]; go_wp2_with (go_at_call 50; refine (l01In_any _ _ _ _).mono ?_; rintro e w' ⟨rfl, rfl⟩))
    go_ret
    exact ⟨ret_bool (by simp [isForm, hc]), by go_grown⟩
  go_enter Try.func46, Try.ntmps46
  go_wp2
  refine wp_loop_rounds 4 ?_
  repeat any_goals (rw [rounds_succ]; go_wp2_with (go_at_call 50; refine (l01In_any _ _ _ _).mono ?_; rintro e w' ⟨rfl, rfl⟩))
  go_ret
  exact ⟨ret_bool (by simp [isForm, ha, hb, hc]), by go_grown⟩
theorem sIsForm_any (a b c : Int) (w : World) :
    Calls Try.prog 15 #[(.agg #[.int .i64 a, .int .i64 b, .int .i64 c])] w fun e w' => e = .returned (.bool (isForm a b c)) ∧ Below w.heap.size w w' := by
  go_enter Try.func15, Try.ntmps15
  go_wp2_with (go_at_call 46; refine (l05Is_any _ _ _ _).mono ?_; rintro e w' ⟨rfl, hb⟩)
  go_ret
  exact ⟨rfl, ((Below.refl _ _).alloc (Nat.le_refl _) _).trans (hb.mono (by simp))⟩
theorem lawFnExactIsForm (a b c : Int) (_ : -9223372036854775808 ≤ a ∧ a ≤ 9223372036854775807) (_ : -9223372036854775808 ≤ b ∧ b ≤ 9223372036854775807) (_ : -9223372036854775808 ≤ c ∧ c ≤ 9223372036854775807) (w : World) :
    Calls Try.prog 3 #[(.agg #[.int .i64 a, .int .i64 b, .int .i64 c])] w fun e w' => e = .returned (.bool true) ∧ Below w.heap.size w w' := by
  go_enter Try.func3, Try.ntmps3
  go_wp2_with fail
  refine (toForm_any _ _ _ _).mono ?_; rintro e w1 ⟨rfl, hb1⟩
  obtain ⟨hc1, hf1⟩ := bcell hb1
  go_wp2_with fail
  refine (sIsForm_any _ _ _ _).mono ?_; rintro e w2 ⟨rfl, hb2⟩
  replace hb2 := bstep hb1 hb2
  clear hc1 hf1 hb1
  obtain ⟨hc1, hf1⟩ := bcell hb2
  go_wp2_with fail
  refine (toForm_any _ _ _ _).mono ?_; rintro e w3 ⟨rfl, hb3⟩
  replace hb3 := bstep hb2 hb3
  clear hc1 hf1 hb2
  obtain ⟨hc1, hf1⟩ := bcell hb3
  go_wp2_with fail
  refine (IsForm_any _ _ _ _).mono ?_; rintro e w4 ⟨rfl, hb4⟩
  replace hb4 := bstep hb3 hb4
  clear hc1 hf1 hb3
  obtain ⟨hc1, hf1⟩ := bcell hb4
  have hne : (isForm a b c != isForm a b c) = false := by simp
  go_wp2_with fail
  go_ret
  exact ⟨rfl, bfin ((Below.refl _ _).alloc (Nat.le_refl _) _) hb4⟩
end Go.Proofs.Ytmpmphnlollkaaa
