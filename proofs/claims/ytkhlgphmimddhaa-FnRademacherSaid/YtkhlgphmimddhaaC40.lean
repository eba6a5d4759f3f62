/- Contracts: lists of numbers without a common divisor. -/
import Derived.Test.YtkhlgphmimddhaaC34
import Derived.Test.YtkhlgphmimddhaaN20
import Derived.Test.YtkhlgphmimddhaaR1
namespace Go.Proofs.Ytkhlgphmimddhaa
open Go.RowKit
theorem elI : Elem Try.prog 44 2 (.int .i64 0) 1 8 := elem_of Try.underlying44 (by kernel_rfl) rfl (by omega) (by omega)
set_option maxRecDepth 100000 in
set_option maxHeartbeats 1000000 in
theorem units_any (K : Nat) (w : World) (k1 : (K : Int) ≤ 20000) :
    Calls Try.prog 66 #[(.int .i64 ((K : Int)))] w fun e w' => ∃ v, e = .returned v ∧ w'.ownsRow w.heap.size 2 1 v (unitsL K K).length (ints (unitsL K K)) ∧ Below w.heap.size w w' := by
  go_enter Try.func66, Try.ntmps66
  go_wp2_with fail
  go_loopw [3, 4] (fun v i wr => ∃ k : Nat, i = (.int .i64 ((k : Int) + 1)) ∧ k ≤ K ∧ Hid (wr.ownsRow w.heap.size 2 1 v (unitsL K k).length (ints (unitsL K k))) ∧ Below w.heap.size w wr) (fun _ i _ => K + 1 - (intOf i).toNat)
  case atStart => exact ⟨0, by go_num, Nat.zero_le _, Lib.hid (World.ownsRow_lit w #[] 0 (Nat.le_refl _) (by simp [maxLen]) rfl), by go_grown⟩
  case round =>
    obtain ⟨k, rfl, hk, HO, hb⟩ := hrel
    have hsz := hb.size
    by_cases hlt : k < K
    · by_cases hg : (Int.gcd ((k : Int) + 1) K : Int) = 1
      · have HG := Lib.hid (fun W => divisor_any ((k : Int) + 1) K W (by omega) (by omega) (by omega) (by omega))
        have HU := Lib.hid (unitsL_yes hg)
        have hq := unitsL_len (K : Int) k
        rw [hg] at HG
        clear hg
        go_wp2_with fail
        refine (HG.out _).mono ?_; rintro e w1 ⟨rfl, hb1⟩
        go_wp2_with (at_builtin; refine app_one elI rfl _ _ rfl rfl rfl (by simp) (own_below HO.out hb1) (hb.trans (hb1.mono hsz)) rfl (by intro u hu; simp at hu; subst hu; rfl) (Nat.le_trans hsz hb1.size) (by omega) ?_; intro v' w2 hown2 hb2 hg2; have HO2 := Lib.hid hown2; clear hown2 hg2)
        go_roundw
        case rel => exact ⟨k + 1, by go_num, by omega, Lib.hid (by rw [HU.out]; simpa [ints] using HO2.out), hb2⟩
        case measure => simp [intOf]; omega
      · have HG := Lib.hid (fun W => divisor_any ((k : Int) + 1) K W (by omega) (by omega) (by omega) (by omega))
        have HU := Lib.hid (unitsL_no hg)
        generalize (Int.gcd ((k : Int) + 1) K : Int) = g at *
        go_wp2_with fail
        refine (HG.out _).mono ?_; rintro e w1 ⟨rfl, hb1⟩
        go_wp2_with fail
        go_roundw
        case rel => exact ⟨k + 1, by go_num, by omega, Lib.hid (by rw [HU.out]; exact own_below HO.out hb1), hb.trans (hb1.mono hsz)⟩
        case measure => simp [intOf]; omega
    · obtain rfl : k = K := by omega
      go_wp2_with fail
      go_ret
      exact ⟨_, rfl, HO.out, hb⟩
end Go.Proofs.Ytkhlgphmimddhaa
