/- Contracts: the forms of a discriminant; the law FormsOf. -/
import Derived.Test.YtcaiofhdcffogaaC22
import Derived.Test.YtcaiofhdcffogaaRow
import Derived.Test.YtcaiofhdcffogaaNa
namespace Go.Proofs.Ytcaiofhdcffogaa
open Go.RowKit
theorem told_yes {d : Int} (h : inB d (-2000) 2000 = true) : toldB d = (decide (d % 4 < 2) && (decide (d < 0) || !sqB d)) := by simp [toldB, h]
theorem told_no {d : Int} (h : inB d (-2000) 2000 = false) : toldB d = false := by simp [toldB, h]
theorem elF : Elem Try.prog 27 34 (.agg #[.int .i64 0, .int .i64 0, .int .i64 0]) 3 24 := elem_of Try.underlying27 (by kernel_rfl) rfl (by omega) (by omega)
set_option maxHeartbeats 1000000 in
theorem isDisc_any (d : Int) (w : World) :
    Calls Try.prog 29 #[(.int .i64 d)] w fun e w' => e = .returned (.bool (toldB d)) ∧ w = w' := by
  have HW := Lib.hid (fun W => within_any d (-2000) 2000 W)
  cases hb : inB d (-2000) 2000
  · rw [told_no hb]
    rw [hb] at HW
    go_enter Try.func29, Try.ntmps29
    go_wp2_with fail
    refine (HW.out _).mono ?_; rintro e w' ⟨rfl, rfl⟩
    go_wp2_with fail
    go_ret
    exact ⟨rfl, rfl⟩
  · rw [told_yes hb]
    rw [hb] at HW
    obtain ⟨d0, d1⟩ := inB_iff.1 hb
    clear hb
    have HR := Lib.hid (fun W => rest_any d 4 W (by omega) (by omega))
    generalize d % 4 = r at *
    by_cases hr : r < 2
    · by_cases hn : d < 0
      · rw [decide_eq_true hr, decide_eq_true hn]
        go_enter Try.func29, Try.ntmps29
        go_wp2_with fail
        refine (HW.out _).mono ?_; rintro e w' ⟨rfl, rfl⟩
        go_wp2_with fail
        refine (HR.out _).mono ?_; rintro e w' ⟨rfl, rfl⟩
        go_wp2_with fail
        go_ret
        exact ⟨rfl, rfl⟩
      · rw [decide_eq_true hr, decide_eq_false hn]
        have HQ := Lib.hid (fun W => isSquare_any d W (by omega) (by omega))
        generalize sqB d = q at *
        cases q
        all_goals
          go_enter Try.func29, Try.ntmps29
          go_wp2_with fail
          refine (HW.out _).mono ?_; rintro e w' ⟨rfl, rfl⟩
          go_wp2_with fail
          refine (HR.out _).mono ?_; rintro e w' ⟨rfl, rfl⟩
          go_wp2_with fail
          refine (HQ.out _).mono ?_; rintro e w' ⟨rfl, rfl⟩
          go_wp2_with fail
          go_ret
          exact ⟨ret_bool (by simp <;> omega), rfl⟩
    · rw [decide_eq_false hr]
      go_enter Try.func29, Try.ntmps29
      go_wp2_with fail
      refine (HW.out _).mono ?_; rintro e w' ⟨rfl, rfl⟩
      go_wp2_with fail
      refine (HR.out _).mono ?_; rintro e w' ⟨rfl, rfl⟩
      go_wp2_with fail
      go_ret
      exact ⟨rfl, rfl⟩
set_option maxHeartbeats 1000000 in
theorem l05Told_any (d : Int) (w : World) :
    Calls Try.prog 32 #[(.int .i64 d)] w fun e w' => e = .returned (.bool (toldB d)) ∧ w = w' := by
  have HW := Lib.hid (fun W => l01In_any d (-2000) 2000 W)
  cases hb : inB d (-2000) 2000
  · rw [told_no hb]
    rw [hb] at HW
    go_enter Try.func32, Try.ntmps32
    go_wp2_with fail
    refine (HW.out _).mono ?_; rintro e w' ⟨rfl, rfl⟩
    go_wp2_with fail
    go_ret
    exact ⟨rfl, rfl⟩
  · rw [told_yes hb]
    rw [hb] at HW
    obtain ⟨d0, d1⟩ := inB_iff.1 hb
    clear hb
    have HR := Lib.hid (fun W => l01Mod_any d 4 W (by omega) (by omega))
    generalize d % 4 = r at *
    by_cases hr : r < 2
    · by_cases hn : d < 0
      · rw [decide_eq_true hr, decide_eq_true hn]
        go_enter Try.func32, Try.ntmps32
        go_wp2_with fail
        refine (HW.out _).mono ?_; rintro e w' ⟨rfl, rfl⟩
        go_wp2_with fail
        refine (HR.out _).mono ?_; rintro e w' ⟨rfl, rfl⟩
        go_wp2_with fail
        go_ret
        exact ⟨rfl, rfl⟩
      · rw [decide_eq_true hr, decide_eq_false hn]
        have HQ := Lib.hid (fun W => l05Square_any d W (by omega) (by omega))
        generalize sqB d = q at *
        cases q
        all_goals
          go_enter Try.func32, Try.ntmps32
          go_wp2_with fail
          refine (HW.out _).mono ?_; rintro e w' ⟨rfl, rfl⟩
          go_wp2_with fail
          refine (HR.out _).mono ?_; rintro e w' ⟨rfl, rfl⟩
          go_wp2_with fail
          refine (HQ.out _).mono ?_; rintro e w' ⟨rfl, rfl⟩
          go_wp2_with fail
          go_ret
          exact ⟨ret_bool (by simp <;> omega), rfl⟩
    · rw [decide_eq_false hr]
      go_enter Try.func32, Try.ntmps32
      go_wp2_with fail
      refine (HW.out _).mono ?_; rintro e w' ⟨rfl, rfl⟩
      go_wp2_with fail
      refine (HR.out _).mono ?_; rintro e w' ⟨rfl, rfl⟩
      go_wp2_with fail
      go_ret
      exact ⟨rfl, rfl⟩
/-- What a round asks of a and b. -/
structure Rnd (d a b : Int) (k : Nat) : Prop where
  sm : Small a b (okC d a b)
  s0 : 0 ≤ b * b
  s1 : b * b ≤ 2500
  c0 : -1200 ≤ okC d a b
  c1 : okC d a b ≤ 1200
  g0 : 0 ≤ (Int.gcd a b : Int)
  g1 : (Int.gcd a b : Int) ≤ 100
  yes : okF d a b = true → frow d a (k + 1) = frow d a k ++ [⟨a, b, okC d a b⟩]
  no : okF d a b = false → frow d a (k + 1) = frow d a k
theorem rnd {d a b : Int} {k : Nat} (hd : -2000 ≤ d ∧ d ≤ 2000) (ha : a ≠ 0) (ha2 : -50 ≤ a ∧ a ≤ 50) (hb : -50 ≤ b ∧ b ≤ 50) (hk : b = (k : Int) - 50) : Rnd d a b k := by
  obtain ⟨c0, c1, s0, s1⟩ := okBd hd ha hb
  have hg : (Int.gcd a b : Int) ≤ 100 := by
    have h1 : Int.gcd a b ∣ a.natAbs := Nat.gcd_dvd_left _ _
    have := Nat.le_of_dvd (by omega) h1
    omega
  exact ⟨⟨by omega, by omega, by omega, by omega, by omega, by omega⟩, s0, s1, c0, c1, by omega, hg, fun h => frow_yes hk h, fun h => frow_no hk h⟩
/-- The four tests in the program's order. -/
theorem okF_tests {d a b : Int} (ha : a ≠ 0) : okF d a b = (decide (disc a b (okC d a b) = d) && (decide ((Int.gcd (Int.gcd a b : Int) (okC d a b) : Int) = 1) && (decide (0 < d ∨ 0 < a) && redB a b (okC d a b)))) := by
  unfold okF
  rw [decide_eq_decide.2 (disc_iff (d := d) (b := b) ha), show decide (a ≠ 0 ∧ (0 < d ∨ 0 < a)) = decide (0 < d ∨ 0 < a) from decide_eq_decide.2 ⟨fun h => h.2, fun h => ⟨ha, h⟩⟩]
  generalize decide (0 < d ∨ 0 < a) = x
  generalize decide ((b * b - d) % (4 * (a.natAbs : Int)) = 0) = y
  generalize decide ((Int.gcd (Int.gcd a b : Int) (okC d a b) : Int) = 1) = z
  cases x <;> cases y <;> cases z <;> simp
set_option maxRecDepth 100000 in
set_option maxHeartbeats 4000000 in
theorem formsOf_any (d : Int) (w : World) (hd : -2000 ≤ d ∧ d ≤ 2000) :
    Calls Try.prog 30 #[(.int .i64 d)] w fun e w' => ∃ v, e = .returned v ∧ w'.ownsRow w.heap.size 34 3 v (fall d 101).length (ints (flatF (fall d 101))) ∧ Below w.heap.size w w' := by
  obtain ⟨m0, m1⟩ := most_bd hd
  obtain ⟨m, hm⟩ := Int.eq_ofNat_of_zero_le m0
  have HS := Lib.hid (fun W => size_any d W (by omega) (by omega))
  have HR := Lib.hid (fun W => root_any (d.natAbs : Int) W (by omega) (by omega))
  rw [hm] at HR m1
  have HF := Lib.hid (show ∀ k, k = 50 - m → fall d k = [] from fun k hk => fall_first hm.symm (by omega) hk)
  have HL := Lib.hid (show ∀ k, k = 50 + m + 1 → fall d k = fall d 101 from fun k hk => fall_last hm.symm (by omega) hk)
  have HF2 := Lib.hid (show ∀ a k, k = 50 - m → frow d a k = [] from fun a k hk => frow_first hm.symm (by omega) hk)
  have HL2 := Lib.hid (show ∀ a k, k = 50 + m + 1 → frow d a k = frow d a 101 from fun a k hk => frow_last hm.symm (by omega) hk)
  clear hm m0
  obtain ⟨d0, d1⟩ := hd
  generalize (d.natAbs : Int) = D at *
  go_enter Try.func30, Try.ntmps30
  go_wp2_with fail
  refine (HS.out _).mono ?_; rintro e w' ⟨rfl, rfl⟩
  go_wp2_with fail
  refine (HR.out _).mono ?_; rintro e w' ⟨rfl, rfl⟩
  go_wp2_with fail
  go_loopw [3, 5] (fun v i wr => ∃ (j : Nat) (A : Int), i = (.int .i64 A) ∧ A + 50 ≤ j ∧ (j : Int) ≤ A + 50 ∧ 50 - m ≤ j ∧ j ≤ 50 + m + 1 ∧ Hid (wr.ownsRow w.heap.size 34 3 v (fall d j).length (ints (flatF (fall d j)))) ∧ Below w.heap.size w wr) (fun _ i _ => (200 - intOf i).toNat)
  case atStart => exact ⟨50 - m, -(m : Int), rfl, by omega, by omega, by omega, by omega, Lib.hid (by rw [HF.out _ rfl]; exact World.ownsRow_lit w #[] 0 (Nat.le_refl _) (by simp [maxLen]) rfl), by go_grown⟩
  case round =>
    obtain ⟨j, A, rfl, jA, jA2, j0, j1, HO, hb⟩ := hrel
    by_cases hlt : j ≤ 50 + m
    · have hAm : A ≤ (m : Int) := by omega
      go_wp2_with fail
      go_loopw [3, 6] (fun v i wr => ∃ (k : Nat) (B : Int), i = (.int .i64 B) ∧ B + 50 ≤ k ∧ (k : Int) ≤ B + 50 ∧ 50 - m ≤ k ∧ k ≤ 50 + m + 1 ∧ Hid (wr.ownsRow w.heap.size 34 3 v (fall d j ++ frow d A k).length (ints (flatF (fall d j ++ frow d A k)))) ∧ Below w.heap.size w wr) (fun _ i _ => (200 - intOf i).toNat)
      case atStart => exact ⟨50 - m, -(m : Int), rfl, by omega, by omega, by omega, by omega, Lib.hid (by rw [HF2.out _ _ rfl, List.append_nil]; exact HO.out), hb⟩
      case round =>
        obtain ⟨k, B, rfl, kB, kB2, k0, k1, HO2, hb2⟩ := hrel
        have hsz := hb2.size
        have HS1 := Lib.hid (show fall d (j + 1) = fall d j ++ frow d A 101 by rw [show A = (j : Int) - 50 by omega]; rfl)
        by_cases ha : j = 50
        · have HE := Lib.hid (show fall d j ++ frow d A k = fall d (j + 1) by
            rw [HS1.out, frow_neg (by omega), frow_neg (by omega)])
          have hz : (A != 0) = false := by simp; omega
          rcases (show B ≤ (m : Int) ∨ ¬ B ≤ (m : Int) by omega) with hq | hq
          all_goals
            go_wp2_with fail
            go_roundw
            case rel => exact ⟨j + 1, A + 1, rfl, by omega, by omega, by omega, by omega, Lib.hid (by rw [← HE.out]; exact HO2.out), hb2⟩
            case measure => simp [intOf]; omega
        · by_cases hlt2 : k ≤ 50 + m
          · have hA : A ≠ 0 := by omega
            have hz : (A != 0) = true := by simp; omega
            have hBm : B ≤ (m : Int) := by omega
            have hR := rnd (d := d) (a := A) (b := B) (k := k) ⟨d0, d1⟩ hA (by omega) (by omega) (by omega)
            have hlb : (fall d j ++ frow d A k).length ≤ 20000 := by
              rw [List.length_append]
              have := fall_len d j
              have := frow_len d A k
              omega
            have HK := Lib.hid (okF_tests (d := d) (b := B) hA)
            have hA0 : -50 ≤ A ∧ A ≤ 50 := by omega
            have hB0 : -50 ≤ B ∧ B ≤ 50 := by omega
            obtain ⟨A0, A1⟩ := hA0
            obtain ⟨B0, B1⟩ := hB0
            obtain ⟨sm, s0, s1, c0, c1, g0, g1, yes, no⟩ := hR
            have hC : (B * B - d).tdiv (4 * A) = okC d A B := rfl
            have HY := Lib.hid yes
            have HN := Lib.hid no
            clear yes no
            generalize okC d A B = C at *
            have HD := Lib.hid (fun W => disc_any A B C W sm)
            rw [show (B * B - 4 * A * C : Int) = disc A B C from rfl] at HD
            have HG1 := Lib.hid (fun W => divisor_any A B W (by omega) (by omega) (by omega) (by omega))
            have HG2 := Lib.hid (fun W => divisor_any (Int.gcd A B : Int) C W (by omega) (by omega) (by omega) (by omega))
            have HRd := Lib.hid (fun W => isReduced_any A B C W sm)
            generalize disc A B C = dv at *
            generalize (Int.gcd (Int.gcd A B : Int) C : Int) = gv at *
            generalize (Int.gcd A B : Int) = g1v at *
            generalize redB A B C = rv at *
            have hA4 : 4 * A ≠ 0 := by omega
            by_cases h1 : dv = d
            · rw [decide_eq_true h1, Bool.true_and] at HK
              have hE1 : (dv == d) = true := by simp [h1]
              clear h1
              by_cases h2 : gv = 1
              · rw [decide_eq_true h2, Bool.true_and] at HK
                have hE2 : (gv == 1) = true := by simp [h2]
                clear h2
                by_cases h3 : 0 < d ∨ 0 < A
                · rw [decide_eq_true h3, Bool.true_and] at HK
                  rcases (show 0 < d ∨ (¬ 0 < d ∧ 0 < A) by omega) with h4 | ⟨h4, h5⟩
                  all_goals
                    clear h3
                    cases rv
                    · have HV := Lib.hid (HN.out HK.out)
                      clear HY HN HK
                      go_wp2_with fail
                      go_wp2_with fail
                      refine (HD.out _).mono ?_; rintro e w6 ⟨rfl, hb6⟩
                      obtain ⟨hc6, hf6⟩ := bcell hb6
                      have hz6_0 : wr.heap.size < w6.heap.size := by have := hb6.size; (try simp at this); omega
                      go_wp2_with fail
                      refine (HG1.out _).mono ?_; rintro e w7 ⟨rfl, hb7⟩
                      replace hb7 := bstep hb6 hb7
                      clear hc6 hf6 hb6
                      obtain ⟨hc7, hf7⟩ := bcell hb7
                      have hz7_0 : wr.heap.size < w7.heap.size := by have := hb7.size; (try simp at this); omega
                      go_wp2_with fail
                      refine (HG2.out _).mono ?_; rintro e w8 ⟨rfl, hb8⟩
                      replace hb8 := bstep hb7 hb8
                      clear hc7 hf7 hb7
                      obtain ⟨hc8, hf8⟩ := bcell hb8
                      have hz8_0 : wr.heap.size < w8.heap.size := by have := hb8.size; (try simp at this); omega
                      go_wp2_with fail
                      refine (HRd.out _).mono ?_; rintro e w9 ⟨rfl, hb9⟩
                      replace hb9 := bstep hb8 hb9
                      clear hc8 hf8 hb8
                      obtain ⟨hc9, hf9⟩ := bcell hb9
                      go_wp2_with fail
                      have hB9 : Below w.heap.size w w9 := bfin (by go_grown) hb9
                      go_roundw
                      case rel => exact ⟨k + 1, B + 1, rfl, by omega, by omega, by omega, by omega, Lib.hid (by rw [HV.out]; exact own_below (HO2.out.alloc _) hb9), hB9⟩
                      case measure => simp [intOf]; omega
                    · have HV := Lib.hid (HY.out HK.out)
                      clear HY HN HK
                      go_wp2_with fail
                      go_wp2_with fail
                      refine (HD.out _).mono ?_; rintro e w6 ⟨rfl, hb6⟩
                      obtain ⟨hc6, hf6⟩ := bcell hb6
                      have hz6_0 : wr.heap.size < w6.heap.size := by have := hb6.size; (try simp at this); omega
                      go_wp2_with fail
                      refine (HG1.out _).mono ?_; rintro e w7 ⟨rfl, hb7⟩
                      replace hb7 := bstep hb6 hb7
                      clear hc6 hf6 hb6
                      obtain ⟨hc7, hf7⟩ := bcell hb7
                      have hz7_0 : wr.heap.size < w7.heap.size := by have := hb7.size; (try simp at this); omega
                      go_wp2_with fail
                      refine (HG2.out _).mono ?_; rintro e w8 ⟨rfl, hb8⟩
                      replace hb8 := bstep hb7 hb8
                      clear hc7 hf7 hb7
                      obtain ⟨hc8, hf8⟩ := bcell hb8
                      have hz8_0 : wr.heap.size < w8.heap.size := by have := hb8.size; (try simp at this); omega
                      go_wp2_with fail
                      refine (HRd.out _).mono ?_; rintro e w9 ⟨rfl, hb9⟩
                      replace hb9 := bstep hb8 hb9
                      clear hc8 hf8 hb8
                      obtain ⟨hc9, hf9⟩ := bcell hb9
                      have hz9_0 : wr.heap.size < w9.heap.size := by have := hb9.size; (try simp at this); omega
                      have hB9 : Below w.heap.size w w9 := bfin (by go_grown) hb9
                      have hs9 := hB9.size
                      go_wp2_with (at_builtin; refine app_one elF rfl _ _ rfl rfl rfl (by simp) (own_below (HO2.out.alloc _) hb9) (hB9) rfl (by intro u hu; simp at hu; first | (subst hu; rfl) | (rcases hu with rfl | rfl <;> rfl) | (rcases hu with rfl | rfl | rfl <;> rfl) | (rcases hu with rfl | rfl | rfl | rfl <;> rfl)) (hs9) (by omega) ?_; intro v' w10 hown10 hb10 hg10; have HO10 := Lib.hid hown10; clear hown10 hg10)
                      go_roundw
                      case rel => exact ⟨k + 1, B + 1, rfl, by omega, by omega, by omega, by omega, Lib.hid (by rw [HV.out, ← List.append_assoc, flatF_snoc]; simpa [ints, Nat.add_assoc] using HO10.out), hb10⟩
                      case measure => simp [intOf]; omega
                · rw [decide_eq_false h3, Bool.false_and] at HK
                  have HV := Lib.hid (HN.out HK.out)
                  have h4 : ¬ 0 < d := by omega
                  have h5 : ¬ 0 < A := by omega
                  clear HY HN HK h3
                  go_wp2_with fail
                  go_wp2_with fail
                  refine (HD.out _).mono ?_; rintro e w6 ⟨rfl, hb6⟩
                  obtain ⟨hc6, hf6⟩ := bcell hb6
                  have hz6_0 : wr.heap.size < w6.heap.size := by have := hb6.size; (try simp at this); omega
                  go_wp2_with fail
                  refine (HG1.out _).mono ?_; rintro e w7 ⟨rfl, hb7⟩
                  replace hb7 := bstep hb6 hb7
                  clear hc6 hf6 hb6
                  obtain ⟨hc7, hf7⟩ := bcell hb7
                  have hz7_0 : wr.heap.size < w7.heap.size := by have := hb7.size; (try simp at this); omega
                  go_wp2_with fail
                  refine (HG2.out _).mono ?_; rintro e w8 ⟨rfl, hb8⟩
                  replace hb8 := bstep hb7 hb8
                  clear hc7 hf7 hb7
                  obtain ⟨hc8, hf8⟩ := bcell hb8
                  go_wp2_with fail
                  have hB8 : Below w.heap.size w w8 := bfin (by go_grown) hb8
                  go_roundw
                  case rel => exact ⟨k + 1, B + 1, rfl, by omega, by omega, by omega, by omega, Lib.hid (by rw [HV.out]; exact own_below (HO2.out.alloc _) hb8), hB8⟩
                  case measure => simp [intOf]; omega
              · rw [decide_eq_false h2, Bool.false_and] at HK
                have hE2 : (gv == 1) = false := by simp [h2]
                have HV := Lib.hid (HN.out HK.out)
                clear HY HN HK h2
                go_wp2_with fail
                go_wp2_with fail
                refine (HD.out _).mono ?_; rintro e w6 ⟨rfl, hb6⟩
                obtain ⟨hc6, hf6⟩ := bcell hb6
                have hz6_0 : wr.heap.size < w6.heap.size := by have := hb6.size; (try simp at this); omega
                go_wp2_with fail
                refine (HG1.out _).mono ?_; rintro e w7 ⟨rfl, hb7⟩
                replace hb7 := bstep hb6 hb7
                clear hc6 hf6 hb6
                obtain ⟨hc7, hf7⟩ := bcell hb7
                have hz7_0 : wr.heap.size < w7.heap.size := by have := hb7.size; (try simp at this); omega
                go_wp2_with fail
                refine (HG2.out _).mono ?_; rintro e w8 ⟨rfl, hb8⟩
                replace hb8 := bstep hb7 hb8
                clear hc7 hf7 hb7
                obtain ⟨hc8, hf8⟩ := bcell hb8
                go_wp2_with fail
                have hB8 : Below w.heap.size w w8 := bfin (by go_grown) hb8
                go_roundw
                case rel => exact ⟨k + 1, B + 1, rfl, by omega, by omega, by omega, by omega, Lib.hid (by rw [HV.out]; exact own_below (HO2.out.alloc _) hb8), hB8⟩
                case measure => simp [intOf]; omega
            · rw [decide_eq_false h1, Bool.false_and] at HK
              have hE1 : (dv == d) = false := by simp [h1]
              have HV := Lib.hid (HN.out HK.out)
              clear HY HN HK h1
              go_wp2_with fail
              go_wp2_with fail
              refine (HD.out _).mono ?_; rintro e w6 ⟨rfl, hb6⟩
              obtain ⟨hc6, hf6⟩ := bcell hb6
              go_wp2_with fail
              have hB6 : Below w.heap.size w w6 := bfin (by go_grown) hb6
              go_roundw
              case rel => exact ⟨k + 1, B + 1, rfl, by omega, by omega, by omega, by omega, Lib.hid (by rw [HV.out]; exact own_below (HO2.out.alloc _) hb6), hB6⟩
              case measure => simp [intOf]; omega
          · have HE := Lib.hid (show fall d j ++ frow d A k = fall d (j + 1) by
              rw [HS1.out, HL2.out _ k (by omega)])
            have hBm : ¬ B ≤ (m : Int) := by omega
            go_wp2_with fail
            go_roundw
            case rel => exact ⟨j + 1, A + 1, rfl, by omega, by omega, by omega, by omega, Lib.hid (by rw [← HE.out]; exact HO2.out), hb2⟩
            case measure => simp [intOf]; omega
    · have HE := Lib.hid (HL.out j (by omega))
      have hAm : ¬ A ≤ (m : Int) := by omega
      go_wp2_with fail
      go_ret
      exact ⟨_, rfl, by rw [← HE.out]; exact HO.out, hb⟩
end Go.Proofs.Ytcaiofhdcffogaa
