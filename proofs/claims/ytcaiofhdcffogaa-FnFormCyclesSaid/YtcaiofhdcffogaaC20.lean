/- Contracts: ReduceForm; the law. -/
import Derived.Test.YtcaiofhdcffogaaC19
namespace Go.Proofs.Ytcaiofhdcffogaa
open Go.RowKit
theorem inv_reduceN {a b c : Int} : ∀ (k : Nat) {t : RS}, DefInv a b c t → DefInv a b c (reduceN k t)
  | 0, _, h => h
  | k + 1, t, h => by
    unfold reduceN
    split
    · exact h
    · exact inv_reduceN k (inv_step h)
theorem inv_reduceOf {a b c : Int} (h : Small a b c) (hd : disc a b c < 0) (ha : 0 < a) : DefInv a b c (reduceOf a b c) := inv_reduceN _ (inv_start h hd ha)
def reduceRes (a b c : Int) : RS × Int := if isForm a b c = true then (if defB a b c = true then (reduceOf a b c, 0) else (⟨⟨0, 0, 0⟩, ⟨0, 0, 0, 0⟩⟩, 5)) else (⟨⟨0, 0, 0⟩, ⟨0, 0, 0, 0⟩⟩, 1)
abbrev rr (R : RS × Int) : Value := .tuple #[(.agg #[.int .i64 R.1.f.x, .int .i64 R.1.f.y, .int .i64 R.1.f.z]), (.agg #[.int .i64 R.1.m.p, .int .i64 R.1.m.q, .int .i64 R.1.m.r, .int .i64 R.1.m.s]), (.int .i64 R.2)]
end Go.Proofs.Ytcaiofhdcffogaa
