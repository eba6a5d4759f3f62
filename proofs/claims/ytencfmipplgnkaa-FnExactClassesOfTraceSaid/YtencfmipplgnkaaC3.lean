/- Contracts: arrays copied and compared by the laws; forms. -/
import Derived.Test.YtencfmipplgnkaaC2
namespace Go.Proofs.Ytencfmipplgnkaa
open Go.RowKit
theorem toForm_any (a b c : Int) (w : World) :
    Calls Try.prog 41 #[(.agg #[.int .i64 a, .int .i64 b, .int .i64 c])] w fun e w' => e = .returned (.agg #[.int .i64 a, .int .i64 b, .int .i64 c]) ∧ Below w.heap.size w w' := by
  go_enter Try.func41, Try.ntmps41
  go_wp2
  go_rounds 4
  go_returns
  exact ⟨rfl, by go_grown⟩
theorem toMatrix_any (a b c d : Int) (w : World) :
    Calls Try.prog 24 #[(.agg #[.int .i64 a, .int .i64 b, .int .i64 c, .int .i64 d])] w fun e w' => e = .returned (.agg #[.int .i64 a, .int .i64 b, .int .i64 c, .int .i64 d]) ∧ Below w.heap.size w w' := by
  go_enter Try.func24, Try.ntmps24
  go_wp2
  go_rounds 5
  go_returns
  exact ⟨rfl, by go_grown⟩
theorem eqMatrix_same (a b c d : Int) (w : World) :
    Calls Try.prog 30 #[(.agg #[.int .i64 a, .int .i64 b, .int .i64 c, .int .i64 d]), (.agg #[.int .i64 a, .int .i64 b, .int .i64 c, .int .i64 d])] w fun e w' => e = .returned (.bool true) ∧ Below w.heap.size w w' := by
  have h1 : (a != a) = false := by simp
  have h2 : (b != b) = false := by simp
  have h3 : (c != c) = false := by simp
  have h4 : (d != d) = false := by simp
  go_enter Try.func30, Try.ntmps30
  go_wp2
  refine wp_loop_rounds 5 ?_
  iterate 4 (rw [rounds_succ]; go_wp2; go_quiet (fail); go_wp2)
  rw [rounds_succ]; go_wp2
  go_returns
  exact ⟨rfl, below_drewN (by go_grown) _⟩

set_option maxRecDepth 100000 in
theorem eqForm3 (a b c a' b' c' : Int) (w : World) : (Op.equalIn 10000 60 (.agg #[.int .i64 a, .int .i64 b, .int .i64 c]) (.agg #[.int .i64 a', .int .i64 b', .int .i64 c'])).run Try.prog w = .ok (a == a' && (b == b' && c == c')) w :=
  run_equalIn_arr3 Try.underlying60 ⟨_, rfl⟩ Try.underlying2 (by kernel_rfl) (fun x y z w => ⟨by kernel_rfl, by kernel_rfl, by kernel_rfl⟩) a b c a' b' c' w
theorem idxForm0 (x y z : Value) (w : World) : (Instr.index 60 (.agg #[x, y, z]) (.int .i64 0)).run Try.prog w = .ok x w := by kernel_rfl
theorem idxForm1 (x y z : Value) (w : World) : (Instr.index 60 (.agg #[x, y, z]) (.int .i64 1)).run Try.prog w = .ok y w := by kernel_rfl
theorem idxForm2 (x y z : Value) (w : World) : (Instr.index 60 (.agg #[x, y, z]) (.int .i64 2)).run Try.prog w = .ok z w := by kernel_rfl
attribute [local go_sem] eqForm3 idxForm0 idxForm1 idxForm2

theorem IsForm_any (a b c : Int) (w : World) :
    Calls Try.prog 90 #[(.agg #[.int .i64 a, .int .i64 b, .int .i64 c])] w fun e w' => e = .returned (.bool (isForm a b c)) ∧ Below w.heap.size w w' := by
  cases ha : inB a (-1000000) 1000000
  · go_enter Try.func90, Try.ntmps90
    go_wp2
    refine wp_loop_rounds 4 ?_
    repeat any_goals (rw [rounds_succ]; go_wp2_with (go_at_call 74; refine (within_any _ _ _ _).mono ?_; rintro e w' ⟨rfl, rfl⟩))
    go_ret
    exact ⟨ret_bool (by simp [isForm, ha]), by go_grown⟩
  cases hb : inB b (-1000000) 1000000
  · go_enter Try.func90, Try.ntmps90
    go_wp2
    refine wp_loop_rounds 4 ?_
    repeat any_goals (rw [rounds_succ]; go_wp2_with (go_at_call 74; refine (within_any _ _ _ _).mono ?_; rintro e w' ⟨rfl, rfl⟩))
    go_ret
    exact ⟨ret_bool (by simp [isForm, hb]), by go_grown⟩
  cases hc : inB c (-1000000) 1000000
  · go_enter Try.func90, Try.ntmps90
    go_wp2
    refine wp_loop_rounds 4 ?_
    repeat any_goals (rw [rounds_succ]; go_wp2_with (go_at_call 74; refine (within_any _ _ _ _).mono ?_; rintro e w' ⟨rfl, rfl⟩))
    go_ret
    exact ⟨ret_bool (by simp [isForm, hc]), by go_grown⟩
  go_enter Try.func90, Try.ntmps90
  go_wp2
  refine wp_loop_rounds 4 ?_
  repeat any_goals (rw [rounds_succ]; go_wp2_with (go_at_call 74; refine (within_any _ _ _ _).mono ?_; rintro e w' ⟨rfl, rfl⟩))
  go_ret
  exact ⟨ret_bool (by simp [isForm, ha, hb, hc]), by go_grown⟩
theorem l05Is_any (a b c : Int) (w : World) :
    Calls Try.prog 88 #[(.agg #[.int .i64 a, .int .i64 b, .int .i64 c])] w fun e w' => e = .returned (.bool (isForm a b c)) ∧ Below w.heap.size w w' := by
  cases ha : inB a (-1000000) 1000000
  · go_enter Try.func88, Try.ntmps88
    go_wp2
    refine wp_loop_rounds 4 ?_
    repeat any_goals (rw [rounds_succ]; go_wp2_with (go_at_call 61; refine (l01In_any _ _ _ _).mono ?_; rintro e w' ⟨rfl, rfl⟩))
    go_ret
    exact ⟨ret_bool (by simp [isForm, ha]), by go_grown⟩
  cases hb : inB b (-1000000) 1000000
  · go_enter Try.func88, Try.ntmps88
    go_wp2
    refine wp_loop_rounds 4 ?_
    repeat any_goals (rw [rounds_succ]; go_wp2_with (go_at_call 61; refine (l01In_any _ _ _ _).mono ?_; rintro e w' ⟨rfl, rfl⟩))
    go_ret
    exact ⟨ret_bool (by simp [isForm, hb]), by go_grown⟩
  cases hc : inB c (-1000000) 1000000
  · go_enter Try.func88, Try.ntmps88
    go_wp2
    refine wp_loop_rounds 4 ?_
    repeat any_goals (rw [rounds_succ]; go_wp2_with (go_at_call 61; refine (l01In_any _ _ _ _).mono ?_; rintro e w' ⟨rfl, rfl⟩))
    go_ret
    exact ⟨ret_bool (by simp [isForm, hc]), by go_grown⟩
  go_enter Try.func88, Try.ntmps88
  go_wp2
  refine wp_loop_rounds 4 ?_
  repeat any_goals (rw [rounds_succ]; go_wp2_with (go_at_call 61; refine (l01In_any _ _ _ _).mono ?_; rintro e w' ⟨rfl, rfl⟩))
  go_ret
  exact ⟨ret_bool (by simp [isForm, ha, hb, hc]), by go_grown⟩
end Go.Proofs.Ytencfmipplgnkaa
