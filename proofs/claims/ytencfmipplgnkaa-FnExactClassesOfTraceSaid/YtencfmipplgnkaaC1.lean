/- Contracts: small numbers, entries, matrices. -/
import Derived.Test.YtencfmipplgnkaaRows
import Derived.Test.YtencfmipplgnkaaBase2
import Derived.Test.YtencfmipplgnkaaNa
namespace Go.Proofs.Ytencfmipplgnkaa
open Go.RowKit

theorem within_any (n a b : Int) (w : World) :
    Calls Try.prog 74 #[(.int .i64 n), (.int .i64 a), (.int .i64 b)] w fun e w' => e = .returned (.bool (inB n a b)) ∧ w = w' := by
  by_cases h1 : a ≤ n <;> by_cases h2 : n ≤ b
  all_goals
    go_enter Try.func74, Try.ntmps74
    go_wp2
    go_ret
    exact ⟨ret_bool (by simp [inB] <;> omega), rfl⟩
theorem l01In_any (n a b : Int) (w : World) :
    Calls Try.prog 61 #[(.int .i64 n), (.int .i64 a), (.int .i64 b)] w fun e w' => e = .returned (.bool (inB n a b)) ∧ w = w' := by
  by_cases h1 : a ≤ n <;> by_cases h2 : n ≤ b
  all_goals
    go_enter Try.func61, Try.ntmps61
    go_wp2
    go_ret
    exact ⟨ret_bool (by simp [inB] <;> omega), rfl⟩
theorem isEntry_any (n : Int) (w : World) :
    Calls Try.prog 139 #[(.int .i64 n)] w fun e w' => e = .returned (.bool (entB n)) ∧ w = w' := by
  go_enter Try.func139, Try.ntmps139
  go_wp2_with (go_at_call 74; refine (within_any _ _ _ _).mono ?_; rintro e w' ⟨rfl, rfl⟩)
  go_ret
  exact ⟨rfl, rfl⟩
theorem l01Entry_any (n : Int) (w : World) :
    Calls Try.prog 94 #[(.int .i64 n)] w fun e w' => e = .returned (.bool (entB n)) ∧ w = w' := by
  go_enter Try.func94, Try.ntmps94
  go_wp2_with (go_at_call 61; refine (l01In_any _ _ _ _).mono ?_; rintro e w' ⟨rfl, rfl⟩)
  go_ret
  exact ⟨rfl, rfl⟩

/-- areEntries over a row that lies in memory. -/
theorem areEntries_any (b off cap n : Nat) (f : Nat → Int) (w : World) (hm : n ≤ 1000000) (hc : ∀ i, i < n → w.cell? ⟨b, off + i, none⟩ = some (.int .i64 (f i))) :
    Calls Try.prog 100 #[.slice (some ⟨b, off, none⟩) n cap] w fun e w' => e = .returned (.bool (allB n fun i => entB (f i))) ∧ w = w' := by
  have H := Lib.hid hc
  clear hc
  go_enter Try.func100, Try.ntmps100
  go_wp2
  go_loop [7] (fun i => ∃ k : Nat, k ≤ n ∧ i = (.int .i64 k) ∧ (allB k fun i => entB (f i)) = true) (fun i => n - (intOf i).toNat)
  case atStart => exact ⟨0, Nat.zero_le _, rfl, rfl⟩
  case round =>
    obtain ⟨k, hk, rfl, hp⟩ := hrel
    have HP := Lib.hid hp
    clear hp
    by_cases hlt : k < n
    · have hck := H.out k hlt
      generalize hx : f k = x at hck
      have HX := Lib.hid hx
      clear hx
      cases he : entB x
      · go_wp2_with (go_at_call 139; refine (isEntry_any _ _).mono ?_; rintro e w' ⟨rfl, rfl⟩)
        go_ret
        exact ⟨ret_bool (allB_false hlt (by rw [HX.out]; exact he)).symm, rfl⟩
      · go_wp2_with (go_at_call 139; refine (isEntry_any _ _).mono ?_; rintro e w' ⟨rfl, rfl⟩)
        go_round
        case rel => exact ⟨k + 1, by omega, by go_num, allB_succ HP.out (by rw [HX.out]; exact he)⟩
        case measure => simp [intOf]; omega
    · go_wp2
      go_ret
      have : k = n := by omega
      subst this
      exact ⟨ret_bool HP.out.symm, rfl⟩
end Go.Proofs.Ytencfmipplgnkaa
