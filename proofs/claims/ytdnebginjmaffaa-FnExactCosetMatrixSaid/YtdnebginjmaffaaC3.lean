/- Contracts: arrays copied and compared by the laws; forms. -/
import Derived.Test.YtdnebginjmaffaaC2
namespace Go.Proofs.Ytdnebginjmaffaa
open Go.RowKit
theorem toMatrix_any (a b c d : Int) (w : World) :
    Calls Try.prog 16 #[(.agg #[.int .i64 a, .int .i64 b, .int .i64 c, .int .i64 d])] w fun e w' => e = .returned (.agg #[.int .i64 a, .int .i64 b, .int .i64 c, .int .i64 d]) ∧ Below w.heap.size w w' := by
  go_enter Try.func16, Try.ntmps16
  go_wp2
  go_rounds 5
  go_returns
  exact ⟨rfl, by go_grown⟩
theorem eqMatrix_same (a b c d : Int) (w : World) :
    Calls Try.prog 26 #[(.agg #[.int .i64 a, .int .i64 b, .int .i64 c, .int .i64 d]), (.agg #[.int .i64 a, .int .i64 b, .int .i64 c, .int .i64 d])] w fun e w' => e = .returned (.bool true) ∧ Below w.heap.size w w' := by
  have h1 : (a != a) = false := by simp
  have h2 : (b != b) = false := by simp
  have h3 : (c != c) = false := by simp
  have h4 : (d != d) = false := by simp
  go_enter Try.func26, Try.ntmps26
  go_wp2
  refine wp_loop_rounds 5 ?_
  iterate 4 (rw [rounds_succ]; go_wp2; go_quiet (fail); go_wp2)
  rw [rounds_succ]; go_wp2
  go_returns
  exact ⟨rfl, below_drewN (by go_grown) _⟩


end Go.Proofs.Ytdnebginjmaffaa
