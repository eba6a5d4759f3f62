/- Contracts: the number of cusps; the law. -/
import Derived.Test.YtdnebginjmaffaaC52
import Derived.Test.YtdnebginjmaffaaC9
namespace Go.Proofs.Ytdnebginjmaffaa
open Go.RowKit
def phiN (m : Nat) : Nat := phiC m m
def cuspS (N : Nat) : Nat → Nat
  | 0 => 0
  | d + 1 => cuspS N d + if N % (d + 1) = 0 then phiN (Nat.gcd (d + 1) (N / (d + 1))) else 0
theorem cuspS_yes {N d : Nat} (h : N % (d + 1) = 0) : cuspS N (d + 1) = cuspS N d + phiN (Nat.gcd (d + 1) (N / (d + 1))) := by simp [cuspS, h]
theorem cuspS_no {N d : Nat} (h : N % (d + 1) ≠ 0) : cuspS N (d + 1) = cuspS N d := by simp [cuspS, h]
theorem phiC_le (m k : Nat) : phiC m k ≤ k := by
  induction k with
  | zero => simp [phiC]
  | succ k ih => unfold phiC; split <;> omega
structure GcdBd (N d : Nat) : Prop where
  g0 : 0 < Nat.gcd d (N / d)
  g1 : Nat.gcd d (N / d) ≤ 31
theorem gcd_small {N d : Nat} (h0 : 0 < N) (h1 : N ≤ 1000) (hd : 0 < d) (h : N % d = 0) : GcdBd N d := by
  have hq : N / d * d = N := Nat.div_mul_cancel (Nat.dvd_of_mod_eq_zero h)
  have hp : 0 < N / d := Nat.pos_of_ne_zero fun e => by rw [e] at hq; omega
  have g0 : 0 < Nat.gcd d (N / d) := Nat.gcd_pos_of_pos_left _ hd
  have h3 := Nat.le_of_dvd hd (Nat.gcd_dvd_left d (N / d))
  have h4 := Nat.le_of_dvd hp (Nat.gcd_dvd_right d (N / d))
  refine ⟨g0, Nat.le_of_not_lt fun hlt => ?_⟩
  have h5 := Nat.mul_le_mul (Nat.le_trans hlt h4) (Nat.le_trans hlt h3)
  rw [hq] at h5; omega
theorem cuspS_le {N : Nat} (h0 : 0 < N) (h1 : N ≤ 1000) (d : Nat) : cuspS N d ≤ 31 * d := by
  induction d with
  | zero => simp [cuspS]
  | succ d ih =>
    unfold cuspS
    split
    · rename_i h
      have := (gcd_small h0 h1 (by omega) h).g1
      have := phiC_le (Nat.gcd (d + 1) (N / (d + 1))) (Nat.gcd (d + 1) (N / (d + 1)))
      unfold phiN; omega
    · omega
def cuspRes (n : Int) : Int × Int := if inB n 1 1000 = true then (((cuspS n.toNat n.toNat : Nat) : Int), 0) else (0, 2)
theorem igcd_nat (a b : Nat) : (Int.gcd (a : Int) (b : Int) : Int) = ((Nat.gcd a b : Nat) : Int) := rfl
set_option maxHeartbeats 1000000 in
theorem l06Phi_any (m : Nat) (w : World) (m1 : m ≤ 1000) :
    Calls Try.prog 52 #[(.int .i64 ((m : Int)))] w fun e w' => e = .returned (.int .i64 (((phiN m : Nat) : Int))) ∧ Below w.heap.size w w' := by
  unfold phiN
  go_enter Try.func52, Try.ntmps52
  go_wp2_with fail
  go_loopw [3, 4] (fun c i wr => ∃ k : Nat, c = (.int .i64 (((phiC m k : Nat) : Int))) ∧ i = (.int .i64 ((k : Int) + 1)) ∧ k ≤ m ∧ Below w.heap.size w wr) (fun _ i _ => m + 1 - (intOf i).toNat)
  case atStart => exact ⟨0, rfl, by go_num, Nat.zero_le _, Below.refl _ _⟩
  case round =>
    obtain ⟨k, rfl, rfl, hk, hb⟩ := hrel
    have hp := phiC_le m k
    by_cases hlt : k < m
    · have HG := Lib.hid (fun W => l01Gcd_any ((k : Int) + 1) m W (by omega) (by omega) (by omega) (by omega))
      have hgn : (Int.gcd ((k : Int) + 1) (m : Int) : Int) = ((Nat.gcd (k + 1) m : Nat) : Int) := igcd_nat (k + 1) m
      rw [hgn] at HG
      clear hgn
      by_cases hg : Nat.gcd (k + 1) m = 1
      · have HS := Lib.hid (show phiC m (k + 1) = phiC m k + 1 by simp [phiC, hg])
        rw [hg] at HG
        clear hg
        go_wp2_with fail
        refine (HG.out _).mono ?_; rintro e w1 ⟨rfl, hb1⟩
        go_wp2_with fail
        go_roundw
        case rel => exact ⟨k + 1, by rw [HS.out]; go_num, by go_num, by omega, hb.trans (hb1.mono hb.size)⟩
        case measure => simp [intOf]; omega
      · have HS := Lib.hid (show phiC m (k + 1) = phiC m k by simp [phiC, hg])
        have hg1 : (((Nat.gcd (k + 1) m : Nat) : Int) == 1) = false := by
          have : ((Nat.gcd (k + 1) m : Nat) : Int) ≠ 1 := by exact_mod_cast hg
          simpa using this
        generalize Nat.gcd (k + 1) m = g at *
        clear hg
        go_wp2_with fail
        refine (HG.out _).mono ?_; rintro e w1 ⟨rfl, hb1⟩
        go_wp2_with fail
        go_roundw
        case rel => exact ⟨k + 1, by rw [HS.out], by go_num, by omega, hb.trans (hb1.mono hb.size)⟩
        case measure => simp [intOf]; omega
    · obtain rfl : k = m := by omega
      go_wp2_with fail
      go_ret
      exact ⟨rfl, hb⟩
set_option maxHeartbeats 1000000 in
theorem sCountCusps_any (n : Int) (w : World) :
    Calls Try.prog 20 #[(.int .i64 n)] w fun e w' => e = .returned (.tuple #[(.int .i64 ((cuspRes n).1)), (.int .i64 ((cuspRes n).2))]) ∧ Below w.heap.size w w' := by
  have H1 := Lib.hid (fun W => l01In_any n 1 1000 W)
  cases hn : inB n 1 1000
  · rw [show cuspRes n = (0, 2) by simp [cuspRes, hn]]
    rw [hn] at H1
    go_enter Try.func20, Try.ntmps20
    go_wp2_with fail
    refine (H1.out _).mono ?_; rintro e w' ⟨rfl, rfl⟩
    go_wp2_with fail
    go_ret2
    exact ⟨rfl, Below.refl _ _⟩
  rw [hn] at H1
  rw [show cuspRes n = (((cuspS n.toNat n.toNat : Nat) : Int), 0) by simp [cuspRes, hn]]
  obtain ⟨n0, n1⟩ := inB_iff.1 hn
  clear hn
  obtain ⟨N, rfl⟩ := Int.eq_ofNat_of_zero_le (show 0 ≤ n by omega)
  rw [Int.toNat_natCast]
  have N0 : 0 < N := by omega
  have N1 : N ≤ 1000 := by omega
  go_enter Try.func20, Try.ntmps20
  go_wp2_with fail
  refine (H1.out _).mono ?_; rintro e w' ⟨rfl, rfl⟩
  go_wp2_with fail
  go_loopw [4, 5] (fun c i wr => ∃ d : Nat, c = (.int .i64 (((cuspS N d : Nat) : Int))) ∧ i = (.int .i64 ((d : Int) + 1)) ∧ d ≤ N ∧ Below w.heap.size w wr) (fun _ i _ => N + 1 - (intOf i).toNat)
  case atStart => exact ⟨0, rfl, by go_num, Nat.zero_le _, Below.refl _ _⟩
  case round =>
    obtain ⟨d, rfl, rfl, hd, hb⟩ := hrel
    have hp := cuspS_le N0 N1 d
    by_cases hlt : d < N
    · by_cases hm : N % (d + 1) = 0
      · have HS := Lib.hid (cuspS_yes hm)
        have hgb := gcd_small N0 N1 (show 0 < d + 1 by omega) hm
        obtain ⟨t1, t2⟩ := mod_no hm
        have hp2 := phiC_le (Nat.gcd (d + 1) (N / (d + 1))) (Nat.gcd (d + 1) (N / (d + 1)))
        have hp2 : phiN (Nat.gcd (d + 1) (N / (d + 1))) ≤ Nat.gcd (d + 1) (N / (d + 1)) := hp2
        have hq0 : 0 ≤ (N : Int) / ((d : Int) + 1) := Int.ediv_nonneg (by omega) (by omega)
        have hq1 : (N : Int) / ((d : Int) + 1) ≤ 1000 := (ediv_bd (b := (d : Int) + 1) (K := 1000) (by omega) (show -1000 ≤ (N : Int) by omega) (by omega)).2
        have HG := Lib.hid (fun W => l01Gcd_any ((d : Int) + 1) ((N : Int) / ((d : Int) + 1)) W (by omega) (by omega) (by omega) (by omega))
        have hgn : (Int.gcd ((d : Int) + 1) ((N : Int) / ((d : Int) + 1)) : Int) = ((Nat.gcd (d + 1) (N / (d + 1)) : Nat) : Int) := igcd_nat (d + 1) (N / (d + 1))
        rw [hgn] at HG
        clear hgn hm
        obtain ⟨g0, g1⟩ := hgb
        have HF := Lib.hid (fun W => l06Phi_any (Nat.gcd (d + 1) (N / (d + 1))) W (by omega))
        generalize Nat.gcd (d + 1) (N / (d + 1)) = g at *
        push_cast at t1 t2
        go_wp2_with fail
        refine (HG.out _).mono ?_; rintro e w1 ⟨rfl, hb1⟩
        go_wp2_with fail
        refine (HF.out _).mono ?_; rintro e w2 ⟨rfl, hb2⟩
        go_wp2_with fail
        go_roundw
        case rel => exact ⟨d + 1, by rw [HS.out]; go_num, by go_num, by omega, (hb.trans (hb1.mono hb.size)).trans (hb2.mono (Nat.le_trans hb.size hb1.size))⟩
        case measure => simp [intOf]; omega
      · have HS := Lib.hid (cuspS_no hm)
        obtain ⟨t1, t2⟩ := mod_yes hm
        push_cast at t1 t2
        clear hm
        go_wp2_with fail
        go_roundw
        case rel => exact ⟨d + 1, by rw [HS.out], by go_num, by omega, hb⟩
        case measure => simp [intOf]; omega
    · obtain rfl : d = N := by omega
      go_wp2_with fail
      go_ret2
      exact ⟨rfl, hb⟩
set_option maxRecDepth 100000 in
set_option maxHeartbeats 2000000 in
theorem CountCusps_any (n : Int) (w : World) :
    Calls Try.prog 21 #[(.int .i64 n)] w fun e w' => e = .returned (.tuple #[(.int .i64 ((cuspRes n).1)), (.int .i64 ((cuspRes n).2))]) ∧ Below w.heap.size w w' := by
  have H1 := Lib.hid (fun W => within_any n 1 1000 W)
  cases hn : inB n 1 1000
  · rw [show cuspRes n = (0, 2) by simp [cuspRes, hn]]
    rw [hn] at H1
    go_enter Try.func21, Try.ntmps21
    go_wp2_with fail
    refine (H1.out _).mono ?_; rintro e w' ⟨rfl, rfl⟩
    go_wp2_with fail
    go_ret2
    exact ⟨rfl, Below.refl _ _⟩
  rw [hn] at H1
  rw [show cuspRes n = (((cuspS n.toNat n.toNat : Nat) : Int), 0) by simp [cuspRes, hn]]
  obtain ⟨n0, n1⟩ := inB_iff.1 hn
  clear hn
  obtain ⟨N, rfl⟩ := Int.eq_ofNat_of_zero_le (show 0 ≤ n by omega)
  rw [Int.toNat_natCast]
  have N0 : 0 < N := by omega
  have N1 : N ≤ 1000 := by omega
  go_enter Try.func21, Try.ntmps21
  go_wp2_with fail
  refine (H1.out _).mono ?_; rintro e w' ⟨rfl, rfl⟩
  go_wp2_with fail
  go_loopw [4, 5] (fun c i wr => ∃ d : Nat, c = (.int .i64 (((cuspS N d : Nat) : Int))) ∧ i = (.int .i64 ((d : Int) + 1)) ∧ d ≤ N ∧ Below w.heap.size w wr) (fun _ i _ => N + 1 - (intOf i).toNat)
  case atStart => exact ⟨0, rfl, by go_num, Nat.zero_le _, Below.refl _ _⟩
  case round =>
    obtain ⟨d, rfl, rfl, hd, hb⟩ := hrel
    have hp := cuspS_le N0 N1 d
    by_cases hlt : d < N
    · by_cases hm : N % (d + 1) = 0
      · have HS := Lib.hid (cuspS_yes hm)
        have hgb := gcd_small N0 N1 (show 0 < d + 1 by omega) hm
        obtain ⟨t1, t2⟩ := mod_no hm
        have hq0 : 0 ≤ (N : Int) / ((d : Int) + 1) := Int.ediv_nonneg (by omega) (by omega)
        have hq1 : (N : Int) / ((d : Int) + 1) ≤ 1000 := (ediv_bd (b := (d : Int) + 1) (K := 1000) (by omega) (show -1000 ≤ (N : Int) by omega) (by omega)).2
        have HG := Lib.hid (fun W => divisor_any ((d : Int) + 1) ((N : Int) / ((d : Int) + 1)) W (by omega) (by omega) (by omega) (by omega))
        have hgn : (Int.gcd ((d : Int) + 1) ((N : Int) / ((d : Int) + 1)) : Int) = ((Nat.gcd (d + 1) (N / (d + 1)) : Nat) : Int) := igcd_nat (d + 1) (N / (d + 1))
        rw [hgn] at HG
        clear hgn hm
        obtain ⟨g0, g1⟩ := hgb
        generalize Nat.gcd (d + 1) (N / (d + 1)) = g at *
        have HU := Lib.hid (fun W => primesOf_any g W g0 (by omega))
        have hO := phiOk_of g0 (show g ≤ 40 by omega)
        simp only [phiOk, Bool.and_eq_true, decide_eq_true_eq] at hO
        have HC := Lib.hid hO.1
        have HR := Lib.hid (show fTimes gPhi g (primesL g) = phiN g from hO.2)
        have hp3 : phiN g ≤ g := phiC_le g g
        clear hO
        generalize primesL g = L at *
        generalize phiN g = R at *
        push_cast at t1 t2
        go_wp2_with fail
        refine (HG.out _).mono ?_; rintro e w1 ⟨rfl, hb1⟩
        go_wp2_with fail
        refine (HU.out _).mono ?_; rintro e w2 ⟨v, rfl, hown, hb2⟩
        obtain ⟨A, cap, rfl, hcap, hmax, hat⟩ := own_view hown
        have hB2 := (hb.trans (hb1.mono hb.size)).trans (hb2.mono (Nat.le_trans hb.size hb1.size))
        unfold maxLen at hmax
        clear hown hb1 hb2
        go_wp2_with fail
        go_loop [6, 29] (fun s i => ∃ j o : Nat, s = (.int .i64 ((o : Int))) ∧ i = (.int .i64 ((j : Int))) ∧ j ≤ L.length ∧ Hid (chk gPhi 1000 o (L.drop j) = true ∧ fTimes gPhi o (L.drop j) = R)) (fun _ i => L.length - (intOf i).toNat)
        case atStart => exact ⟨0, g, rfl, rfl, Nat.zero_le _, Lib.hid ⟨HC.out, HR.out⟩⟩
        case round =>
          obtain ⟨j, o, rfl, rfl, hj, HP⟩ := hrel
          by_cases hlt2 : j < L.length
          · obtain ⟨b, rfl, -, hbl, hc, -⟩ := hat (by omega)
            have hcj := hc j _ (castL_at hlt2)
            have HD := Lib.hid (List.drop_eq_getElem_cons hlt2)
            generalize L[j] = p at hcj HD
            have HSt : Hid (ChkStep gPhi 1000 o p (L.drop (j + 1))) := Lib.hid (chk_step (by rw [← HD.out]; exact HP.out.1))
            have HF : Hid (fTimes gPhi (gPhi o p) (L.drop (j + 1)) = R) := Lib.hid (by have := HP.out.2; rw [HD.out] at this; exact this)
            have o1 := HSt.out.o
            have p1 := HSt.out.p1
            have p2 := HSt.out.p2
            have HX := Lib.hid (gPhi_cast (o := o) p1)
            have hx := HSt.out.n
            have hx2 : 0 ≤ (o : Int) / (p : Int) * ((p : Int) - 1) ∧ (o : Int) / (p : Int) * ((p : Int) - 1) ≤ 1000000000 := by rw [← HX.out]; omega
            obtain ⟨d1, d2⟩ := div_bd (o := (o : Int)) (q := (p : Int)) (by omega) (by omega) (by omega)
            obtain ⟨x1, x2⟩ := hx2
            clear hc hat hx
            go_wp2_with fail
            go_round
            case rel => exact ⟨j + 1, gPhi o p, by rw [HX.out], by go_num, by omega, Lib.hid ⟨HSt.out.next, HF.out⟩⟩
            case measure => simp [intOf]; omega
          · obtain rfl : j = L.length := by omega
            have HE := Lib.hid (show o = R by have := HP.out.2; rw [List.drop_length] at this; exact this)
            have ho : o ≤ 31 := by rw [HE.out]; omega
            clear hat
            go_wp2_with fail
            go_roundw
            case rel => exact ⟨d + 1, by rw [HS.out, ← HE.out]; go_num, by go_num, by omega, hB2⟩
            case measure => simp [intOf]; omega
      · have HS := Lib.hid (cuspS_no hm)
        obtain ⟨t1, t2⟩ := mod_yes hm
        push_cast at t1 t2
        clear hm
        go_wp2_with fail
        go_roundw
        case rel => exact ⟨d + 1, by rw [HS.out], by go_num, by omega, hb⟩
        case measure => simp [intOf]; omega
    · obtain rfl : d = N := by omega
      go_wp2_with fail
      go_ret2
      exact ⟨rfl, hb⟩
theorem lawFnExactCountCusps (n : Int) (_ : I64 n) (w : World) :
    Calls Try.prog 5 #[(.int .i64 n)] w fun e w' => e = .returned (.bool true) ∧ Below w.heap.size w w' := by
  have HS := Lib.hid (sCountCusps_any n)
  have HI := Lib.hid (CountCusps_any n)
  generalize cuspRes n = R at HS HI
  obtain ⟨x, y⟩ := R
  have hn1 : (x != x) = false := by simp
  have hn2 : (y != y) = false := by simp
  go_enter Try.func5, Try.ntmps5
  go_wp2_with fail
  refine (HS.out _).mono ?_; rintro e w1 ⟨rfl, hb1⟩
  obtain ⟨hc1, hf1⟩ := bcell hb1
  go_wp2_with fail
  refine (HI.out _).mono ?_; rintro e w2 ⟨rfl, hb2⟩
  replace hb2 := bstep hb1 hb2
  clear hc1 hf1 hb1
  obtain ⟨hc2, hf2⟩ := bcell hb2
  have hB2 : Below w.heap.size w w2 := bfin (by go_grown) hb2
  go_wp2_with fail
  go_ret
  exact ⟨rfl, by go_grown⟩
end Go.Proofs.Ytdnebginjmaffaa
