/- Contracts: NormalPair, CosetOf; their laws. -/
import Derived.Test.YtjgnhnbhcnfdbaaC63
namespace Go.Proofs.Ytjgnhnbhcnfdbaa
open Go.RowKit
def npRes (n c d : Int) : P2 × Int := if inB n 1 60 = true then (if (entB c && entB d) = true then (if isPairB n (c % n) (d % n) = true then (normal n (c % n) (d % n), 0) else (⟨0, 0⟩, 5)) else (⟨0, 0⟩, 2)) else (⟨0, 0⟩, 2)
theorem allE2 (a b : Int) : (allB 2 fun i => entB (if i = 0 then a else b)) = (entB a && entB b) := by
  simp [allB, List.range_succ]
theorem ret_three {a b c x y z : Int} (h1 : x = a) (h2 : y = b) (h3 : z = c) : Ending.returned (.tuple #[(.int .i64 a), (.int .i64 b), (.int .i64 c)]) = .returned (.tuple #[(.int .i64 x), (.int .i64 y), (.int .i64 z)]) := by rw [h1, h2, h3]
theorem isLevel_any (n : Int) (w : World) : Calls Try.prog 82 #[(.int .i64 n)] w fun e w' => e = .returned (.bool (inB n 1 60)) ∧ w = w' := by
  have H := Lib.hid (fun W => within_any n 1 60 W)
  generalize inB n 1 60 = R at *
  go_enter Try.func82, Try.ntmps82
  go_wp2_with fail
  refine (H.out _).mono ?_; rintro e w' ⟨rfl, rfl⟩
  go_wp2_with fail
  go_ret
  exact ⟨rfl, rfl⟩
def cosetRes (n a b c d : Int) : Int × Int := if isMat a b c d = true then (if inB n 1 60 = true then (cosetI n (lineL n) c d, 0) else (0, 2)) else (0, 1)
end Go.Proofs.Ytjgnhnbhcnfdbaa
