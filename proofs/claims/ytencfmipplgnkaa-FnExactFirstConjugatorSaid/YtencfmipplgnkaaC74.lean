/- Contracts: the matrices with small numbers (written by gen_c74.py). -/
import Derived.Test.YtencfmipplgnkaaC2
import Derived.Test.YtencfmipplgnkaaN42
import Derived.Test.YtencfmipplgnkaaR2
namespace Go.Proofs.Ytencfmipplgnkaa
open Go.RowKit
theorem elM4 : Elem Try.prog 51 40 (.agg #[.int .i64 0, .int .i64 0, .int .i64 0, .int .i64 0]) 4 32 := elem_of Try.underlying51 (by kernel_rfl) rfl (by omega) (by omega)
theorem isMat_small {a b c d : Int} (ha : -3 ≤ a ∧ a ≤ 3) (hb : -3 ≤ b ∧ b ≤ 3) (hc : -3 ≤ c ∧ c ≤ 3) (hd : -3 ≤ d ∧ d ≤ 3) : isMat a b c d = (a * d - b * c == 1) := by
  rw [Bool.eq_iff_iff, isMat_iff, beq_iff_eq]
  exact ⟨fun h => h.det, fun h => ⟨by omega, by omega, by omega, by omega, by omega, by omega, by omega, by omega, h⟩⟩
structure MwRes where
  xs : List Int
  n : Nat
  c : Int
def mwRes (k : Int) : MwRes := if inB k 0 3 = true then ⟨flat4 (matsL k.toNat), (matsL k.toNat).length, 0⟩ else ⟨[], 0, 2⟩
set_option maxRecDepth 100000 in
set_option maxHeartbeats 4000000 in
theorem MatricesWithin_any (n : Int) (w : World) :
    Calls Try.prog 65 #[(.int .i64 n)] w fun e w' => ∃ v, e = .returned (.tuple #[v, (.int .i64 ((mwRes n).c))]) ∧ w'.ownsRow w.heap.size 40 4 v (mwRes n).n (ints (mwRes n).xs) ∧ Below w.heap.size w w' := by
  have HW := Lib.hid (fun W => within_any n 0 3 W)
  cases hk : inB n 0 3
  · rw [show mwRes n = ⟨[], 0, 2⟩ by simp [mwRes, hk]]
    rw [hk] at HW
    go_enter Try.func65, Try.ntmps65
    go_wp2_with fail
    refine (HW.out _).mono ?_; rintro e w' ⟨rfl, rfl⟩
    go_wp2_with fail
    go_ret2
    exact ⟨_, rfl, World.ownsRow_nil _ _ _ _, Below.refl _ _⟩
  · rw [show mwRes n = ⟨flat4 (matsL n.toNat), (matsL n.toNat).length, 0⟩ by simp [mwRes, hk]]
    obtain ⟨k0, k1⟩ := inB_iff.1 hk
    rw [hk] at HW
    clear hk
    obtain ⟨K, rfl⟩ := Int.eq_ofNat_of_zero_le k0
    rw [Int.toNat_natCast]
    have hK : K ≤ 3 := by omega
    clear k0 k1
    go_enter Try.func65, Try.ntmps65
    go_wp2_with fail
    refine (HW.out _).mono ?_; rintro e w' ⟨rfl, rfl⟩
    go_wp2_with fail
    go_loopw [4, 5] (fun v u wr => ∃ i : Nat, u = (.int .i64 ((i : Int) - K)) ∧ i ≤ 2 * K + 1 ∧ Hid (wr.ownsRow w.heap.size 40 4 v (matA K i).length (ints (flat4 (matA K i)))) ∧ Below w.heap.size w wr) (fun _ u _ => ((K : Int) + 1 - intOf u).toNat)
    case atStart => exact ⟨0, by simp, Nat.zero_le _, Lib.hid (World.ownsRow_lit w #[] 0 (Nat.le_refl _) (by simp [maxLen]) rfl), by go_grown⟩
    case round =>
      obtain ⟨i, rfl, hi, HO1, hbo1⟩ := hrel
      obtain ⟨wo1, rfl⟩ : ∃ wo : World, wo = wr := ⟨_, rfl⟩
      by_cases hli : i < 2 * K + 1
      · obtain ⟨a, haa⟩ : ∃ a : Int, a = (i : Int) - K := ⟨_, rfl⟩
        have ba : -3 ≤ a ∧ a ≤ 3 := by omega
        have ka : a ≤ (K : Int) := by omega
        have Ha := Lib.hid haa
        have Sa := Lib.hid (show matA K (i + 1) = matA K i ++ matB K a (2 * K + 1) by rw [haa]; rfl)
        rw [← haa]
        clear haa
        go_wp2_with fail
        go_loopw [4, 6] (fun v u wr => ∃ j : Nat, u = (.int .i64 ((j : Int) - K)) ∧ j ≤ 2 * K + 1 ∧ Hid (wr.ownsRow w.heap.size 40 4 v (matA K i ++ matB K a j).length (ints (flat4 (matA K i ++ matB K a j)))) ∧ Below w.heap.size w wr) (fun _ u _ => ((K : Int) + 1 - intOf u).toNat)
        case atStart => exact ⟨0, by simp, Nat.zero_le _, Lib.hid (by simpa [matB, stepsL] using HO1.out), hbo1⟩
        case round =>
          obtain ⟨j, rfl, hj, HO2, hbo2⟩ := hrel
          obtain ⟨wo2, rfl⟩ : ∃ wo : World, wo = wr := ⟨_, rfl⟩
          by_cases hlj : j < 2 * K + 1
          · obtain ⟨b, hab⟩ : ∃ b : Int, b = (j : Int) - K := ⟨_, rfl⟩
            have bb : -3 ≤ b ∧ b ≤ 3 := by omega
            have kb : b ≤ (K : Int) := by omega
            have Hb := Lib.hid hab
            have Sb := Lib.hid (show matB K a (j + 1) = matB K a j ++ matC K a b (2 * K + 1) by rw [hab]; rfl)
            rw [← hab]
            clear hab
            go_wp2_with fail
            go_loopw [4, 7] (fun v u wr => ∃ k : Nat, u = (.int .i64 ((k : Int) - K)) ∧ k ≤ 2 * K + 1 ∧ Hid (wr.ownsRow w.heap.size 40 4 v (matA K i ++ matB K a j ++ matC K a b k).length (ints (flat4 (matA K i ++ matB K a j ++ matC K a b k)))) ∧ Below w.heap.size w wr) (fun _ u _ => ((K : Int) + 1 - intOf u).toNat)
            case atStart => exact ⟨0, by simp, Nat.zero_le _, Lib.hid (by simpa [matC, stepsL] using HO2.out), hbo2⟩
            case round =>
              obtain ⟨k, rfl, hk, HO3, hbo3⟩ := hrel
              obtain ⟨wo3, rfl⟩ : ∃ wo : World, wo = wr := ⟨_, rfl⟩
              by_cases hlk : k < 2 * K + 1
              · obtain ⟨c, hac⟩ : ∃ c : Int, c = (k : Int) - K := ⟨_, rfl⟩
                have bc : -3 ≤ c ∧ c ≤ 3 := by omega
                have kc : c ≤ (K : Int) := by omega
                have Hc := Lib.hid hac
                have Sc := Lib.hid (show matC K a b (k + 1) = matC K a b k ++ matD K a b c (2 * K + 1) by rw [hac]; rfl)
                rw [← hac]
                clear hac
                go_wp2_with fail
                go_loopw [4, 8] (fun v u wr => ∃ l : Nat, u = (.int .i64 ((l : Int) - K)) ∧ l ≤ 2 * K + 1 ∧ Hid (wr.ownsRow w.heap.size 40 4 v (matA K i ++ matB K a j ++ matC K a b k ++ matD K a b c l).length (ints (flat4 (matA K i ++ matB K a j ++ matC K a b k ++ matD K a b c l)))) ∧ Below w.heap.size w wr) (fun _ u _ => ((K : Int) + 1 - intOf u).toNat)
                case atStart => exact ⟨0, by simp, Nat.zero_le _, Lib.hid (by simpa [matD, stepsL] using HO3.out), hbo3⟩
                case round =>
                  obtain ⟨l, rfl, hl, HO4, hbo4⟩ := hrel
                  by_cases hll : l < 2 * K + 1
                  · obtain ⟨d, had⟩ : ∃ d : Int, d = (l : Int) - K := ⟨_, rfl⟩
                    have bd : -3 ≤ d ∧ d ≤ 3 := by omega
                    have kd : d ≤ (K : Int) := by omega
                    have Hd := Lib.hid had
                    have Sd := Lib.hid (show matD K a b c (l + 1) = matD K a b c l ++ mat1 a b c d by rw [had]; rfl)
                    rw [← had]
                    clear had
                    have hsz := hbo4.size
                    have hlen := mat_len hK (show i ≤ 7 by omega) (show j ≤ 7 by omega) (show k ≤ 7 by omega) (show l ≤ 7 by omega) a b c
                    have HI := Lib.hid (fun W => IsMatrix_any a b c d W)
                    rw [isMat_small ba bb bc bd] at HI
                    by_cases hm : a * d - b * c = 1
                    · rw [show (a * d - b * c == 1) = true by simpa using hm] at HI
                      have hm1 := Lib.hid (mat1_yes hm)
                      clear hm
                      go_wp2_with fail
                      go_wp2_with fail
                      refine (HI.out _).mono ?_; rintro e w6 ⟨rfl, hb6⟩
                      obtain ⟨hc6, hf6⟩ := bcell hb6
                      have hz6_0 : wr.heap.size < w6.heap.size := by have := hb6.size; (try simp at this); omega
                      have hB6 : Below w.heap.size w w6 := bfin (by go_grown) hb6
                      have hs6 : w.heap.size ≤ w6.heap.size := hB6.size
                      go_wp2_with (at_builtin; refine app_one elM4 rfl _ _ rfl rfl rfl (by simp) (own_below (HO4.out.alloc _) hb6) (hB6) rfl (by intro u hu; simp at hu; first | (subst hu; rfl) | (rcases hu with rfl | rfl <;> rfl) | (rcases hu with rfl | rfl | rfl <;> rfl) | (rcases hu with rfl | rfl | rfl | rfl <;> rfl)) (hs6) (by omega) ?_; intro v' w7 hown7 hb7 hg7; have HO7 := Lib.hid hown7; clear hown7 hg7)
                      go_roundw
                      case rel => exact ⟨l + 1, by rw [Hd.out]; go_num, by omega, Lib.hid (by rw [Sd.out, hm1.out, ← List.append_assoc, flat4_snoc, List.length_append (bs := [_])]; simpa [ints] using HO7.out), hb7⟩
                      case measure => simp [intOf]; omega
                    · rw [show (a * d - b * c == 1) = false by simpa using hm] at HI
                      have hm1 := Lib.hid (mat1_no hm)
                      clear hm
                      go_wp2_with fail
                      go_wp2_with fail
                      refine (HI.out _).mono ?_; rintro e w6 ⟨rfl, hb6⟩
                      obtain ⟨hc6, hf6⟩ := bcell hb6
                      have hz6_0 : wr.heap.size < w6.heap.size := by have := hb6.size; (try simp at this); omega
                      have hB6 : Below w.heap.size w w6 := bfin (by go_grown) hb6
                      go_wp2_with fail
                      go_roundw
                      case rel => exact ⟨l + 1, by rw [Hd.out]; go_num, by omega, Lib.hid (by rw [Sd.out, hm1.out, List.append_nil]; exact own_below (HO4.out.alloc _) hb6), hB6⟩
                      case measure => simp [intOf]; omega
                  · obtain rfl : l = 2 * K + 1 := by omega
                    go_wp2_with fail
                    go_roundw
                    case rel => exact ⟨k + 1, by rw [Hc.out]; go_num, by omega, Lib.hid (by rw [Sc.out]; simpa only [List.append_assoc] using HO4.out), hbo4⟩
                    case measure => simp [intOf]; omega
              · obtain rfl : k = 2 * K + 1 := by omega
                go_wp2_with fail
                go_roundw
                case rel => exact ⟨j + 1, by rw [Hb.out]; go_num, by omega, Lib.hid (by rw [Sb.out]; simpa only [List.append_assoc] using HO3.out), hbo3⟩
                case measure => simp [intOf]; omega
          · obtain rfl : j = 2 * K + 1 := by omega
            go_wp2_with fail
            go_roundw
            case rel => exact ⟨i + 1, by rw [Ha.out]; go_num, by omega, Lib.hid (by rw [Sa.out]; simpa only [List.append_assoc] using HO2.out), hbo2⟩
            case measure => simp [intOf]; omega
      · obtain rfl : i = 2 * K + 1 := by omega
        go_wp2_with fail
        go_ret2
        exact ⟨_, rfl, HO1.out, hbo1⟩
set_option maxRecDepth 100000 in
set_option maxHeartbeats 4000000 in
theorem sMatricesWithin_any (n : Int) (w : World) :
    Calls Try.prog 62 #[(.int .i64 n)] w fun e w' => ∃ v, e = .returned (.tuple #[v, (.int .i64 ((mwRes n).c))]) ∧ w'.ownsRow w.heap.size 40 4 v (mwRes n).n (ints (mwRes n).xs) ∧ Below w.heap.size w w' := by
  have HW := Lib.hid (fun W => l01In_any n 0 3 W)
  cases hk : inB n 0 3
  · rw [show mwRes n = ⟨[], 0, 2⟩ by simp [mwRes, hk]]
    rw [hk] at HW
    go_enter Try.func62, Try.ntmps62
    go_wp2_with fail
    refine (HW.out _).mono ?_; rintro e w' ⟨rfl, rfl⟩
    go_wp2_with fail
    go_ret2
    exact ⟨_, rfl, World.ownsRow_nil _ _ _ _, Below.refl _ _⟩
  · rw [show mwRes n = ⟨flat4 (matsL n.toNat), (matsL n.toNat).length, 0⟩ by simp [mwRes, hk]]
    obtain ⟨k0, k1⟩ := inB_iff.1 hk
    rw [hk] at HW
    clear hk
    obtain ⟨K, rfl⟩ := Int.eq_ofNat_of_zero_le k0
    rw [Int.toNat_natCast]
    have hK : K ≤ 3 := by omega
    clear k0 k1
    go_enter Try.func62, Try.ntmps62
    go_wp2_with fail
    refine (HW.out _).mono ?_; rintro e w' ⟨rfl, rfl⟩
    go_wp2_with fail
    go_loopw [4, 5] (fun v u wr => ∃ i : Nat, u = (.int .i64 ((i : Int) - K)) ∧ i ≤ 2 * K + 1 ∧ Hid (wr.ownsRow w.heap.size 40 4 v (matA K i).length (ints (flat4 (matA K i)))) ∧ Below w.heap.size w wr) (fun _ u _ => ((K : Int) + 1 - intOf u).toNat)
    case atStart => exact ⟨0, by simp, Nat.zero_le _, Lib.hid (World.ownsRow_lit w #[] 0 (Nat.le_refl _) (by simp [maxLen]) rfl), by go_grown⟩
    case round =>
      obtain ⟨i, rfl, hi, HO1, hbo1⟩ := hrel
      obtain ⟨wo1, rfl⟩ : ∃ wo : World, wo = wr := ⟨_, rfl⟩
      by_cases hli : i < 2 * K + 1
      · obtain ⟨a, haa⟩ : ∃ a : Int, a = (i : Int) - K := ⟨_, rfl⟩
        have ba : -3 ≤ a ∧ a ≤ 3 := by omega
        have ka : a ≤ (K : Int) := by omega
        have Ha := Lib.hid haa
        have Sa := Lib.hid (show matA K (i + 1) = matA K i ++ matB K a (2 * K + 1) by rw [haa]; rfl)
        rw [← haa]
        clear haa
        go_wp2_with fail
        go_loopw [4, 6] (fun v u wr => ∃ j : Nat, u = (.int .i64 ((j : Int) - K)) ∧ j ≤ 2 * K + 1 ∧ Hid (wr.ownsRow w.heap.size 40 4 v (matA K i ++ matB K a j).length (ints (flat4 (matA K i ++ matB K a j)))) ∧ Below w.heap.size w wr) (fun _ u _ => ((K : Int) + 1 - intOf u).toNat)
        case atStart => exact ⟨0, by simp, Nat.zero_le _, Lib.hid (by simpa [matB, stepsL] using HO1.out), hbo1⟩
        case round =>
          obtain ⟨j, rfl, hj, HO2, hbo2⟩ := hrel
          obtain ⟨wo2, rfl⟩ : ∃ wo : World, wo = wr := ⟨_, rfl⟩
          by_cases hlj : j < 2 * K + 1
          · obtain ⟨b, hab⟩ : ∃ b : Int, b = (j : Int) - K := ⟨_, rfl⟩
            have bb : -3 ≤ b ∧ b ≤ 3 := by omega
            have kb : b ≤ (K : Int) := by omega
            have Hb := Lib.hid hab
            have Sb := Lib.hid (show matB K a (j + 1) = matB K a j ++ matC K a b (2 * K + 1) by rw [hab]; rfl)
            rw [← hab]
            clear hab
            go_wp2_with fail
            go_loopw [4, 7] (fun v u wr => ∃ k : Nat, u = (.int .i64 ((k : Int) - K)) ∧ k ≤ 2 * K + 1 ∧ Hid (wr.ownsRow w.heap.size 40 4 v (matA K i ++ matB K a j ++ matC K a b k).length (ints (flat4 (matA K i ++ matB K a j ++ matC K a b k)))) ∧ Below w.heap.size w wr) (fun _ u _ => ((K : Int) + 1 - intOf u).toNat)
            case atStart => exact ⟨0, by simp, Nat.zero_le _, Lib.hid (by simpa [matC, stepsL] using HO2.out), hbo2⟩
            case round =>
              obtain ⟨k, rfl, hk, HO3, hbo3⟩ := hrel
              obtain ⟨wo3, rfl⟩ : ∃ wo : World, wo = wr := ⟨_, rfl⟩
              by_cases hlk : k < 2 * K + 1
              · obtain ⟨c, hac⟩ : ∃ c : Int, c = (k : Int) - K := ⟨_, rfl⟩
                have bc : -3 ≤ c ∧ c ≤ 3 := by omega
                have kc : c ≤ (K : Int) := by omega
                have Hc := Lib.hid hac
                have Sc := Lib.hid (show matC K a b (k + 1) = matC K a b k ++ matD K a b c (2 * K + 1) by rw [hac]; rfl)
                rw [← hac]
                clear hac
                go_wp2_with fail
                go_loopw [4, 8] (fun v u wr => ∃ l : Nat, u = (.int .i64 ((l : Int) - K)) ∧ l ≤ 2 * K + 1 ∧ Hid (wr.ownsRow w.heap.size 40 4 v (matA K i ++ matB K a j ++ matC K a b k ++ matD K a b c l).length (ints (flat4 (matA K i ++ matB K a j ++ matC K a b k ++ matD K a b c l)))) ∧ Below w.heap.size w wr) (fun _ u _ => ((K : Int) + 1 - intOf u).toNat)
                case atStart => exact ⟨0, by simp, Nat.zero_le _, Lib.hid (by simpa [matD, stepsL] using HO3.out), hbo3⟩
                case round =>
                  obtain ⟨l, rfl, hl, HO4, hbo4⟩ := hrel
                  by_cases hll : l < 2 * K + 1
                  · obtain ⟨d, had⟩ : ∃ d : Int, d = (l : Int) - K := ⟨_, rfl⟩
                    have bd : -3 ≤ d ∧ d ≤ 3 := by omega
                    have kd : d ≤ (K : Int) := by omega
                    have Hd := Lib.hid had
                    have Sd := Lib.hid (show matD K a b c (l + 1) = matD K a b c l ++ mat1 a b c d by rw [had]; rfl)
                    rw [← had]
                    clear had
                    have hsz := hbo4.size
                    have hlen := mat_len hK (show i ≤ 7 by omega) (show j ≤ 7 by omega) (show k ≤ 7 by omega) (show l ≤ 7 by omega) a b c
                    obtain ⟨m0, m1⟩ := mul_bd (a := a) (b := d) (A := 3) (B := 3) (by omega) (by omega) (by omega) (by omega)
                    obtain ⟨m2, m3⟩ := mul_bd (a := b) (b := c) (A := 3) (B := 3) (by omega) (by omega) (by omega) (by omega)
                    by_cases hm : a * d - b * c = 1
                    · have hm1 := Lib.hid (mat1_yes hm)
                      go_wp2_with (at_builtin; refine app_one elM4 rfl _ _ rfl rfl rfl (by simp) (HO4.out) (hbo4) rfl (by intro u hu; simp at hu; first | (subst hu; rfl) | (rcases hu with rfl | rfl <;> rfl) | (rcases hu with rfl | rfl | rfl <;> rfl) | (rcases hu with rfl | rfl | rfl | rfl <;> rfl)) (hsz) (by omega) ?_; intro v' w7 hown7 hb7 hg7; have HO7 := Lib.hid hown7; clear hown7 hg7)
                      go_roundw
                      case rel => exact ⟨l + 1, by rw [Hd.out]; go_num, by omega, Lib.hid (by rw [Sd.out, hm1.out, ← List.append_assoc, flat4_snoc, List.length_append (bs := [_])]; simpa [ints] using HO7.out), hb7⟩
                      case measure => simp [intOf]; omega
                    · have hm1 := Lib.hid (mat1_no hm)
                      have hm2 : (a * d - b * c == 1) = false := by simpa using hm
                      clear hm
                      go_wp2_with fail
                      go_roundw
                      case rel => exact ⟨l + 1, by rw [Hd.out]; go_num, by omega, Lib.hid (by rw [Sd.out, hm1.out, List.append_nil]; exact HO4.out), hbo4⟩
                      case measure => simp [intOf]; omega
                  · obtain rfl : l = 2 * K + 1 := by omega
                    go_wp2_with fail
                    go_roundw
                    case rel => exact ⟨k + 1, by rw [Hc.out]; go_num, by omega, Lib.hid (by rw [Sc.out]; simpa only [List.append_assoc] using HO4.out), hbo4⟩
                    case measure => simp [intOf]; omega
              · obtain rfl : k = 2 * K + 1 := by omega
                go_wp2_with fail
                go_roundw
                case rel => exact ⟨j + 1, by rw [Hb.out]; go_num, by omega, Lib.hid (by rw [Sb.out]; simpa only [List.append_assoc] using HO3.out), hbo3⟩
                case measure => simp [intOf]; omega
          · obtain rfl : j = 2 * K + 1 := by omega
            go_wp2_with fail
            go_roundw
            case rel => exact ⟨i + 1, by rw [Ha.out]; go_num, by omega, Lib.hid (by rw [Sa.out]; simpa only [List.append_assoc] using HO2.out), hbo2⟩
            case measure => simp [intOf]; omega
      · obtain rfl : i = 2 * K + 1 := by omega
        go_wp2_with fail
        go_ret2
        exact ⟨_, rfl, HO1.out, hbo1⟩
end Go.Proofs.Ytencfmipplgnkaa
