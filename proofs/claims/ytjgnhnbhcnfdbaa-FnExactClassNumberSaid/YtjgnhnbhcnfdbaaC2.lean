/- Contracts: matrices. -/
import Derived.Test.YtjgnhnbhcnfdbaaC1
namespace Go.Proofs.Ytjgnhnbhcnfdbaa
open Go.RowKit

set_option maxRecDepth 100000 in
theorem eqMat (a b c d a' b' c' d' : Int) (w : World) : (Op.equalIn 10000 64 (.agg #[.int .i64 a, .int .i64 b, .int .i64 c, .int .i64 d]) (.agg #[.int .i64 a', .int .i64 b', .int .i64 c', .int .i64 d'])).run Try.prog w = .ok (a == a' && (b == b' && (c == c' && d == d'))) w :=
  run_equalIn_arr4 Try.underlying64 ⟨_, rfl⟩ Try.underlying2 (by kernel_rfl) (fun x y z u w => ⟨by kernel_rfl, by kernel_rfl, by kernel_rfl, by kernel_rfl⟩) a b c d a' b' c' d' w
attribute [local go_sem] eqMat

theorem size_any (n : Int) (w : World) (h0 : -9000000000000000000 ≤ n) (h1 : n ≤ 9000000000000000000) :
    Calls Try.prog 99 #[(.int .i64 n)] w fun e w' => e = .returned (.int .i64 ((n.natAbs : Int))) ∧ w = w' := by
  by_cases h : n < 0
  all_goals
    go_enter Try.func99, Try.ntmps99
    go_wp2
    go_ret
    exact ⟨ret_int (by omega), rfl⟩
theorem identity_any (w : World) :
    Calls Try.prog 107 #[] w fun e w' => e = .returned (.agg #[.int .i64 1, .int .i64 0, .int .i64 0, .int .i64 1]) ∧ Below w.heap.size w w' := by
  go_enter Try.func107, Try.ntmps107
  go_wp2
  go_returns
  exact ⟨rfl, by go_grown⟩
theorem allB4 (a b c d : Int) : (allB 4 fun i => entB (if i = 0 then a else if i = 1 then b else if i = 2 then c else d)) = (entB a && (entB b && (entB c && entB d))) := by
  simp [allB, List.range_succ]
end Go.Proofs.Ytjgnhnbhcnfdbaa
