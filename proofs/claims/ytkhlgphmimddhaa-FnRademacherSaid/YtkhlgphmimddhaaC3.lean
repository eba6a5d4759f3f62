/- Contracts: arrays copied and compared by the laws; forms. -/
import Derived.Test.YtkhlgphmimddhaaC2
namespace Go.Proofs.Ytkhlgphmimddhaa
open Go.RowKit
theorem toMatrix_any (a b c d : Int) (w : World) :
    Calls Try.prog 25 #[(.agg #[.int .i64 a, .int .i64 b, .int .i64 c, .int .i64 d])] w fun e w' => e = .returned (.agg #[.int .i64 a, .int .i64 b, .int .i64 c, .int .i64 d]) ∧ Below w.heap.size w w' := by
  go_enter Try.func25, Try.ntmps25
  go_wp2
  go_rounds 5
  go_returns
  exact ⟨rfl, by go_grown⟩

end Go.Proofs.Ytkhlgphmimddhaa
