/- More general helpers: the greatest of some numbers. -/
import Derived.Test.YtencfmipplgnkaaBase
namespace Go.Proofs.Ytencfmipplgnkaa
open Go.RowKit
theorem run_max_int4 {P : Program} (w : World) (ts : Array TypeId) (t : TypeId) (k k1 k2 k3 : IntKind) (x y z u : Int) : (Builtin.max_ ts t #[.int k x, .int k1 y, .int k2 z, .int k3 u]).run P w = .ok (.int k (if u > (if z > (if y > x then y else x) then z else (if y > x then y else x)) then u else (if z > (if y > x then y else x) then z else (if y > x then y else x)))) w := by
  simp [Builtin.max_, Builtin.max2]
attribute [go_sem] run_max_int4
theorem mx2 (x y : Int) : ∃ m, (if x < y then y else x) = m ∧ ∀ K, m ≤ K ↔ x ≤ K ∧ y ≤ K := ⟨_, rfl, fun K => by split <;> omega⟩
end Go.Proofs.Ytencfmipplgnkaa
