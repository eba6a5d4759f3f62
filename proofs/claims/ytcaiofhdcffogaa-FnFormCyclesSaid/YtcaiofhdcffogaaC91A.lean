/- Contracts: the forms of a discriminant, the model's own; the law FormsOf. -/
import Derived.Test.YtcaiofhdcffogaaC90
namespace Go.Proofs.Ytcaiofhdcffogaa
open Go.RowKit
theorem okF_model {d a b : Int} (ha : a ≠ 0) (h : 0 < d ∨ 0 < a) : okF d a b = (decide ((b * b - d) % (4 * (a.natAbs : Int)) = 0) && (decide ((Int.gcd (Int.gcd a b : Int) (okC d a b) : Int) = 1) && redB a b (okC d a b))) := by
  unfold okF
  rw [decide_eq_true (show a ≠ 0 ∧ (0 < d ∨ 0 < a) from ⟨ha, h⟩), Bool.true_and]
set_option maxRecDepth 100000 in
set_option maxHeartbeats 20000000 in
theorem l05All_any (d : Int) (w : World) (hd : -2000 ≤ d ∧ d ≤ 2000) (hdz : d ≠ 0) :
    Calls Try.prog 33 #[(.int .i64 d)] w fun e w' => ∃ v, e = .returned v ∧ w'.ownsRow w.heap.size 34 3 v (fall d 101).length (ints (flatF (fall d 101))) ∧ Below w.heap.size w w' := by
  obtain ⟨d0, d1⟩ := hd
  go_enter Try.func33, Try.ntmps33
  go_wp2_with fail
  go_loopw [3, 5] (fun v i wr => ∃ (j : Nat) (A : Int), i = (.int .i64 A) ∧ A + 50 ≤ j ∧ (j : Int) ≤ A + 50 ∧ j ≤ 101 ∧ Hid (wr.ownsRow w.heap.size 34 3 v (fall d j).length (ints (flatF (fall d j)))) ∧ Below w.heap.size w wr) (fun _ i _ => (200 - intOf i).toNat)
  case atStart => exact ⟨0, -50, rfl, by omega, by omega, by omega, Lib.hid (World.ownsRow_lit w #[] 0 (Nat.le_refl _) (by simp [maxLen]) rfl), by go_grown⟩
  case round =>
    obtain ⟨j, A, rfl, jA, jA2, j1, HO, hb⟩ := hrel
    have HS1 := Lib.hid (show fall d (j + 1) = fall d j ++ frow d A 101 by rw [show A = (j : Int) - 50 by omega]; rfl)
    by_cases hlt : j ≤ 100
    · have hAm : A ≤ 50 := by omega
      have hA0 : -50 ≤ A ∧ A ≤ 50 := by omega
      by_cases hs : A = 0 ∨ (A ≠ 0 ∧ d < 0 ∧ A < 0)
      · have HE := Lib.hid (show fall d j = fall d (j + 1) by
          rw [HS1.out, frow_neg (by omega), List.append_nil])
        rcases hs with hs | ⟨hs1, hs2, hs3⟩
        · have hz : (A == 0) = true := by simp; omega
          clear hs
          go_wp2_with fail
          go_roundw
          case rel => exact ⟨j + 1, A + 1, rfl, by omega, by omega, by omega, Lib.hid (by rw [← HE.out]; exact HO.out), hb⟩
          case measure => simp [intOf]; omega
        · have hz : (A == 0) = false := by simp; omega
          go_wp2_with fail
          go_roundw
          case rel => exact ⟨j + 1, A + 1, rfl, by omega, by omega, by omega, Lib.hid (by rw [← HE.out]; exact HO.out), hb⟩
          case measure => simp [intOf]; omega
      · have hA : A ≠ 0 := by omega
        have hda : 0 < d ∨ 0 < A := by omega
        have hz : (A == 0) = false := by simp; omega
        clear hs
        rcases (show 0 < d ∨ (d < 0 ∧ ¬ A < 0) by omega) with hc | ⟨hc, hc2⟩
        all_goals
          go_wp2_with fail
          go_loopw [3, 6] (fun v i wr => ∃ (k : Nat) (B : Int), i = (.int .i64 B) ∧ B + 50 ≤ k ∧ (k : Int) ≤ B + 50 ∧ k ≤ 101 ∧ Hid (wr.ownsRow w.heap.size 34 3 v (fall d j ++ frow d (A) k).length (ints (flatF (fall d j ++ frow d (A) k)))) ∧ Below w.heap.size w wr) (fun _ i _ => (200 - intOf i).toNat)
          case atStart => exact ⟨0, -50, rfl, by omega, by omega, by omega, Lib.hid (by rw [show frow d (A) 0 = [] from rfl, List.append_nil]; exact HO.out), hb⟩
          case round =>
            obtain ⟨k, B, rfl, kB, kB2, k1, HO2, hb2⟩ := hrel
            have hsz := hb2.size
            by_cases hlt2 : k ≤ 100
            · have hBm : B ≤ 50 := by omega
              have hR := rnd (d := d) (a := A) (b := B) (k := k) ⟨d0, d1⟩ hA hA0 (by omega) (by omega)
              have hlb : (fall d j ++ frow d (A) k).length ≤ 20000 := by
                rw [List.length_append]
                have := fall_len d j
                have := frow_len d (A) k
                omega
              have HK := Lib.hid (okF_model (d := d) (b := B) hA hda)
              have hB0 : -50 ≤ B ∧ B ≤ 50 := by omega
              obtain ⟨A0, A1⟩ := hA0
              obtain ⟨B0, B1⟩ := hB0
              obtain ⟨sm, s0, s1, c0, c1, g0, g1, yes, no⟩ := hR
              have hC : (B * B - d).tdiv (4 * A) = okC d A B := rfl
              have HY := Lib.hid yes
              have HN := Lib.hid no
              clear yes no
              generalize okC d A B = C at *
              have HM := Lib.hid (fun W => l01Mod_any (B * B - d) (4 * (A.natAbs : Int)) W (by omega) (by omega))
              have HG1 := Lib.hid (fun W => l01Gcd_any A B W (by omega) (by omega) (by omega) (by omega))
              have HG2 := Lib.hid (fun W => l01Gcd_any (Int.gcd A B : Int) C W (by omega) (by omega) (by omega) (by omega))
              have HRd := Lib.hid (fun W => l05Reduced_any A B C W sm)
              generalize (Int.gcd (Int.gcd A B : Int) C : Int) = gv at *
              generalize (Int.gcd A B : Int) = g1v at *
              generalize redB A B C = rv at *
              have hA4 : 4 * A ≠ 0 := by omega
              have hmx : (if A < -A then -A else A) = (A.natAbs : Int) := by split <;> omega
              generalize hmv : (B * B - d) % (4 * (A.natAbs : Int)) = mv at *
              have hN0 : 0 < (A.natAbs : Int) ∧ (A.natAbs : Int) ≤ 50 := by omega
              generalize (A.natAbs : Int) = N at *
              obtain ⟨N0, N1⟩ := hN0
              clear hmv
              by_cases h1 : mv = 0
              · rw [decide_eq_true h1, Bool.true_and] at HK
                subst h1
                by_cases h2 : gv = 1
                · rw [decide_eq_true h2, Bool.true_and] at HK
                  have hE2 : (gv == 1) = true := by simp [h2]
                  clear h2
                  cases rv
                  · have HV := Lib.hid (HN.out HK.out)
                    clear HY HN HK
                    go_wp2_with fail
                    refine (HM.out _).mono ?_; rintro e w' ⟨rfl, rfl⟩
                    go_wp2_with fail
                    refine wp_region_ext (by kernel_rfl) (by kernel_rfl) ?_
                    repeat (go_big_quiet_step (first | ((go_at_call 56; refine Calls.ext_of (Nat.le_refl _) (by first | (with_reducible exact HG1.out _) | (with_reducible exact HG2.out _)))) | ((go_at_call 76; refine Calls.ext_of (Nat.le_refl _) (HRd.out _)))))
                    refine wpQuiet_nil ?_
                    intro w6 hb6
                    obtain ⟨hc6, hf6⟩ := bcell hb6
                    go_wp2_with fail
                    have hB6 : Below w.heap.size w w6 := bfin (by go_grown) hb6
                    go_roundw
                    case rel => exact ⟨k + 1, B + 1, rfl, by omega, by omega, by omega, Lib.hid (by rw [HV.out]; exact own_below (HO2.out.alloc _) hb6), hB6⟩
                    case measure => simp [intOf]; omega
                  · have HV := Lib.hid (HY.out HK.out)
                    clear HY HN HK
                    go_wp2_with fail
                    refine (HM.out _).mono ?_; rintro e w' ⟨rfl, rfl⟩
                    go_wp2_with fail
                    refine wp_region_ext (by kernel_rfl) (by kernel_rfl) ?_
                    repeat (go_big_quiet_step (first | ((go_at_call 56; refine Calls.ext_of (Nat.le_refl _) (by first | (with_reducible exact HG1.out _) | (with_reducible exact HG2.out _)))) | ((go_at_call 76; refine Calls.ext_of (Nat.le_refl _) (HRd.out _)))))
                    refine wpQuiet_nil ?_
                    intro w6 hb6
                    obtain ⟨hc6, hf6⟩ := bcell hb6
                    have hz6_0 : wr.heap.size < w6.heap.size := by have := hb6.size; (try simp at this); omega
                    have hB6 : Below w.heap.size w w6 := bfin (by go_grown) hb6
                    have hs6 := hB6.size
                    go_wp2_with (at_builtin; refine app_one elF rfl _ _ rfl rfl rfl (by simp) (own_below (HO2.out.alloc _) hb6) (hB6) rfl (by intro u hu; simp at hu; first | (subst hu; rfl) | (rcases hu with rfl | rfl <;> rfl) | (rcases hu with rfl | rfl | rfl <;> rfl) | (rcases hu with rfl | rfl | rfl | rfl <;> rfl)) (hs6) (by omega) ?_; intro v' w7 hown7 hb7 hg7; have HO7 := Lib.hid hown7; clear hown7 hg7)
                    go_roundw
                    case rel => exact ⟨k + 1, B + 1, rfl, by omega, by omega, by omega, Lib.hid (by rw [HV.out, ← List.append_assoc, flatF_snoc]; simpa [ints, Nat.add_assoc] using HO7.out), hb7⟩
                    case measure => simp [intOf]; omega
                · rw [decide_eq_false h2, Bool.false_and] at HK
                  have hE2 : (gv == 1) = false := by simp [h2]
                  have HV := Lib.hid (HN.out HK.out)
                  clear HY HN HK h2
                  go_wp2_with fail
                  refine (HM.out _).mono ?_; rintro e w' ⟨rfl, rfl⟩
                  go_wp2_with fail
                  refine wp_region_ext (by kernel_rfl) (by kernel_rfl) ?_
                  repeat (go_big_quiet_step (first | ((go_at_call 56; refine Calls.ext_of (Nat.le_refl _) (by first | (with_reducible exact HG1.out _) | (with_reducible exact HG2.out _))))))
                  refine wpQuiet_nil ?_
                  intro w6 hb6
                  obtain ⟨hc6, hf6⟩ := bcell hb6
                  go_wp2_with fail
                  have hB6 : Below w.heap.size w w6 := bfin (by go_grown) hb6
                  go_roundw
                  case rel => exact ⟨k + 1, B + 1, rfl, by omega, by omega, by omega, Lib.hid (by rw [HV.out]; exact own_below (HO2.out.alloc _) hb6), hB6⟩
                  case measure => simp [intOf]; omega
              · rw [decide_eq_false h1, Bool.false_and] at HK
                have hE1 : (mv != 0) = true := by simp [h1]
                have HV := Lib.hid (HN.out HK.out)
                clear HY HN HK h1
                go_wp2_with fail
                refine (HM.out _).mono ?_; rintro e w' ⟨rfl, rfl⟩
                go_wp2_with fail
                go_roundw
                case rel => exact ⟨k + 1, B + 1, rfl, by omega, by omega, by omega, Lib.hid (by rw [HV.out]; exact HO2.out), hb2⟩
                case measure => simp [intOf]; omega
            · obtain rfl : k = 101 := by omega
              have hBm : ¬ B ≤ 50 := by omega
              go_wp2_with fail
              go_roundw
              case rel => exact ⟨j + 1, A + 1, rfl, by omega, by omega, by omega, Lib.hid (by rw [HS1.out]; exact HO2.out), hb2⟩
              case measure => simp [intOf]; omega
    · obtain rfl : j = 101 := by omega
      have hAm : ¬ A ≤ 50 := by omega
      go_wp2_with fail
      go_ret
      exact ⟨_, rfl, HO.out, hb⟩
end Go.Proofs.Ytcaiofhdcffogaa
