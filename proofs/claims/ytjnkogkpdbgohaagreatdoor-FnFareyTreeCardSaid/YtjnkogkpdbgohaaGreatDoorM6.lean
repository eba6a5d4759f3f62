/- Contracts: how many fractions a row has. -/
import Derived.Test.YtjnkogkpdbgohaaGreatDoorC51
import Derived.Test.YtjnkogkpdbgohaaGreatDoorCa
import Derived.Test.YtjnkogkpdbgohaaGreatDoorNa
namespace Go.Proofs.YtjnkogkpdbgohaaGreatDoor
open Go.RowKit
/-- How many fractions greater than 0 a row has. -/
def cntF : Nat → Nat
  | 0 => 0
  | k + 1 => cntF k + phiC (k + 1) (k + 1)
theorem phiC_le (m : Nat) : ∀ k, phiC m k ≤ k
  | 0 => Nat.le_refl _
  | k + 1 => by have := phiC_le m k; unfold phiC; split <;> omega
theorem cntF_le : ∀ {k : Nat}, k ≤ 1000 → cntF k ≤ k * 1000
  | 0, _ => by simp [cntF]
  | k + 1, h => by
    have h1 := cntF_le (k := k) (by omega)
    have h2 := phiC_le (k + 1) (k + 1)
    unfold cntF; omega
def cntRes (N : Int) : Int × Int := if inB N 1 1000 = true then (1 + ((cntF N.toNat : Nat) : Int), 0) else (0, 2)
theorem castL_atM {l : List Nat} {j : Nat} (h : j < l.length) : (ints (castL l))[j]? = some (.int .i64 ((l[j] : Nat) : Int)) := by
  simp [ints, castL, List.getElem?_eq_getElem h]
theorem gPhi_castM {o p : Nat} (hp : 1 ≤ p) : ((gPhi o p : Nat) : Int) = (o : Int) / (p : Int) * ((p : Int) - 1) := by
  unfold gPhi; push_cast; rw [Int.natCast_sub hp]; push_cast; rfl
theorem div_bdM {o q : Int} (h0 : 0 ≤ o) (h1 : o ≤ 1000) (hq : 1 ≤ q) : 0 ≤ o / q ∧ o / q ≤ 1000 := ⟨Int.ediv_nonneg h0 (by omega), (ediv_bd (K := 1000) (by omega) (by omega) h1).2⟩
theorem phi_all {N : Nat} (n0 : 0 < N) (n1 : N ≤ 1000) : chk gPhi 1000 N (primesL N) = true ∧ fTimes gPhi N (primesL N) = phiC N N := by
  have h := phiOk_k n0 n1
  simp only [phiOk, Bool.and_eq_true, decide_eq_true_eq] at h
  exact h
set_option maxRecDepth 100000 in
set_option maxHeartbeats 2000000 in
theorem CountInRow_any (N : Int) (w : World) :
    Calls Tryz.prog 9 #[(.int .i64 N)] w fun e w' => e = .returned (.tuple #[(.int .i64 ((cntRes N).1)), (.int .i64 ((cntRes N).2))]) ∧ Below w.heap.size w w' := by
  have HW := Lib.hid (fun W => within_any N 1 1000 W)
  cases hN : inB N 1 1000
  · rw [show cntRes N = (0, 2) by simp [cntRes, hN]]
    rw [hN] at HW
    go_enter Tryz.func9, Tryz.ntmps9
    go_wp2_with fail
    refine (HW.out _).mono ?_; rintro e w' ⟨rfl, rfl⟩
    go_wp2_with fail
    go_ret2
    exact ⟨rfl, Below.refl _ _⟩
  rw [hN] at HW
  obtain ⟨n, rfl⟩ : ∃ n : Nat, N = (n : Int) := ⟨N.toNat, by simp [inB] at hN; omega⟩
  have hn : 1 ≤ n ∧ n ≤ 1000 := by simp [inB] at hN; omega
  rw [show cntRes (n : Int) = (1 + ((cntF n : Nat) : Int), 0) by simp [cntRes, hN]]
  obtain ⟨hn0, hn1⟩ := hn
  clear hN
  go_enter Tryz.func9, Tryz.ntmps9
  go_wp2_with fail
  refine (HW.out _).mono ?_; rintro e w' ⟨rfl, rfl⟩
  clear HW
  go_wp2_with fail
  go_loopw [4, 5] (fun s q wr => ∃ k C : Nat, s = (.int .i64 (1 + (C : Int))) ∧ q = (.int .i64 ((k : Int) + 1)) ∧ k ≤ n ∧ Hid (C = cntF k) ∧ Hid (Below w.heap.size w wr)) (fun _ q _ => n + 1 - (intOf q).toNat)
  case atStart => exact ⟨0, 0, rfl, rfl, by omega, Lib.hid rfl, Lib.hid (Below.refl _ _)⟩
  case round =>
    obtain ⟨k, C, rfl, rfl, hk, HC, T⟩ := hrel
    have hCb : C ≤ 1000000 := by have := cntF_le (k := k) (by omega); rw [HC.out]; omega
    by_cases hlt : k < n
    · have hlt2 : (k : Int) + 1 ≤ (n : Int) := by omega
      have HU := Lib.hid (fun W => primesOf_any (k + 1) W (by omega) (by omega))
      rw [show ((k + 1 : Nat) : Int) = (k : Int) + 1 by push_cast; rfl] at HU
      obtain ⟨p1, p2⟩ := phi_all (N := k + 1) (by omega) (by omega)
      have HP0 := Lib.hid p1
      obtain ⟨R, hR⟩ : ∃ R, phiC (k + 1) (k + 1) = R := ⟨_, rfl⟩
      have HR := Lib.hid (show fTimes gPhi (k + 1) (primesL (k + 1)) = R by rw [p2, hR])
      have HN := Lib.hid (show C + R = cntF (k + 1) by rw [HC.out, ← hR]; rfl)
      have hRb : R ≤ 1000 := by have := phiC_le (k + 1) (k + 1); omega
      clear p1 p2 hR HC
      generalize primesL (k + 1) = L at *
      go_wp2_with fail
      refine (HU.out _).mono ?_; rintro e w1 ⟨v, rfl, hown, hb1⟩
      obtain ⟨A, cap, rfl, hcap, hmax, hat⟩ := own_view hown
      unfold maxLen at hmax
      have T1 := Lib.hid (bfin T.out hb1)
      clear hown hb1 T HU
      go_wp2_with fail
      go_loop [6, 21] (fun s i => ∃ j o : Nat, s = (.int .i64 ((o : Int))) ∧ i = (.int .i64 ((j : Int))) ∧ j ≤ L.length ∧ Hid (chk gPhi 1000 o (L.drop j) = true ∧ fTimes gPhi o (L.drop j) = R)) (fun _ i => L.length - (intOf i).toNat)
      case atStart => exact ⟨0, k + 1, by push_cast; rfl, rfl, Nat.zero_le _, Lib.hid ⟨HP0.out, HR.out⟩⟩
      case round =>
        obtain ⟨j, o, rfl, rfl, hj, HP⟩ := hrel
        by_cases hlt3 : j < L.length
        · obtain ⟨b, rfl, -, hbl, hc, -⟩ := hat (by omega)
          have hcj := hc j _ (castL_atM hlt3)
          have HD := Lib.hid (List.drop_eq_getElem_cons hlt3)
          generalize L[j] = p at hcj HD
          have HS : Hid (ChkStep gPhi 1000 o p (L.drop (j + 1))) := Lib.hid (chk_step (by rw [← HD.out]; exact HP.out.1))
          have HF : Hid (fTimes gPhi (gPhi o p) (L.drop (j + 1)) = R) := Lib.hid (by have := HP.out.2; rw [HD.out] at this; exact this)
          have o1 := HS.out.o
          have p1 := HS.out.p1
          have p2 := HS.out.p2
          have HX := Lib.hid (gPhi_castM (o := o) p1)
          have hx := HS.out.n
          have hx2 : 0 ≤ (o : Int) / (p : Int) * ((p : Int) - 1) ∧ (o : Int) / (p : Int) * ((p : Int) - 1) ≤ 1000 := by rw [← HX.out]; omega
          obtain ⟨d1, d2⟩ := div_bdM (o := (o : Int)) (by omega) (by omega) (show 1 ≤ (p : Int) by omega)
          obtain ⟨x1, x2⟩ := hx2
          clear hc hat hx
          go_wp2_with fail
          go_round
          case rel => exact ⟨j + 1, gPhi o p, by rw [HX.out], by go_num, by omega, Lib.hid ⟨HS.out.next, HF.out⟩⟩
          case measure => simp [intOf]; omega
        · obtain rfl : j = L.length := by omega
          have HE := Lib.hid (show o = R by have := HP.out.2; rw [List.drop_length] at this; exact this)
          have ho : o ≤ 1000 := by rw [HE.out]; exact hRb
          clear hat
          go_wp2_with fail
          go_roundw
          case rel => exact ⟨k + 1, C + R, by rw [HE.out]; go_num, by go_num, by omega, HN, T1⟩
          case measure => simp [intOf]; omega
    · obtain rfl : k = n := by omega
      have hlt2 : ¬ (k : Int) + 1 ≤ (k : Int) := by omega
      go_wp2_with fail
      go_ret2
      have hCC := HC.out
      subst hCC
      exact ⟨rfl, T.out⟩
set_option maxRecDepth 100000 in
set_option maxHeartbeats 2000000 in
theorem sCountInRow_any (N : Int) (w : World) :
    Calls Tryz.prog 31 #[(.int .i64 N)] w fun e w' => e = .returned (.tuple #[(.int .i64 ((cntRes N).1)), (.int .i64 ((cntRes N).2))]) ∧ Below w.heap.size w w' := by
  have HW := Lib.hid (fun W => l01In_any N 1 1000 W)
  cases hN : inB N 1 1000
  · rw [show cntRes N = (0, 2) by simp [cntRes, hN]]
    rw [hN] at HW
    go_enter Tryz.func31, Tryz.ntmps31
    go_wp2_with fail
    refine (HW.out _).mono ?_; rintro e w' ⟨rfl, rfl⟩
    go_wp2_with fail
    go_ret2
    exact ⟨rfl, Below.refl _ _⟩
  rw [hN] at HW
  obtain ⟨n, rfl⟩ : ∃ n : Nat, N = (n : Int) := ⟨N.toNat, by simp [inB] at hN; omega⟩
  have hn : 1 ≤ n ∧ n ≤ 1000 := by simp [inB] at hN; omega
  rw [show cntRes (n : Int) = (1 + ((cntF n : Nat) : Int), 0) by simp [cntRes, hN]]
  obtain ⟨hn0, hn1⟩ := hn
  clear hN
  go_enter Tryz.func31, Tryz.ntmps31
  go_wp2_with fail
  refine (HW.out _).mono ?_; rintro e w' ⟨rfl, rfl⟩
  clear HW
  go_wp2_with fail
  go_loopw [4, 5] (fun s q wr => ∃ k C : Nat, s = (.int .i64 (1 + (C : Int))) ∧ q = (.int .i64 ((k : Int) + 1)) ∧ k ≤ n ∧ Hid (C = cntF k) ∧ Hid (Below w.heap.size w wr)) (fun _ q _ => n + 1 - (intOf q).toNat)
  case atStart => exact ⟨0, 0, rfl, rfl, by omega, Lib.hid rfl, Lib.hid (Below.refl _ _)⟩
  case round =>
    obtain ⟨k, C, rfl, rfl, hk, HC, T⟩ := hrel
    have hCb : C ≤ 1000000 := by have := cntF_le (k := k) (by omega); rw [HC.out]; omega
    by_cases hlt : k < n
    · have hlt2 : (k : Int) + 1 ≤ (n : Int) := by omega
      have HN := Lib.hid (show C + phiC (k + 1) (k + 1) = cntF (k + 1) by rw [HC.out]; rfl)
      clear HC
      go_wp2_with fail
      go_loopw [4, 6] (fun s p wr => ∃ j D : Nat, s = (.int .i64 (1 + ((C : Int) + (D : Int)))) ∧ p = (.int .i64 ((j : Int) + 1)) ∧ j ≤ k + 1 ∧ Hid (D = phiC (k + 1) j) ∧ Hid (Below w.heap.size w wr)) (fun _ p _ => k + 2 - (intOf p).toNat)
      case atStart => exact ⟨0, 0, by simp, rfl, by omega, Lib.hid rfl, T⟩
      case round =>
        clear T
        obtain ⟨j, D, rfl, rfl, hj, HD, T⟩ := hrel
        have hDb : D ≤ 1000 := by have := phiC_le (k + 1) j; rw [HD.out]; omega
        by_cases hlt3 : j < k + 1
        · have hlt4 : (j : Int) + 1 ≤ (k : Int) + 1 := by omega
          have hlt5 : (j : Int) ≤ (k : Int) := by omega
          have HG := Lib.hid (fun W => l01Gcd_any ((j : Int) + 1) ((k : Int) + 1) W (by omega) (by omega) (by omega) (by omega))
          have hG : (Int.gcd ((j : Int) + 1) ((k : Int) + 1) : Int) = ((Nat.gcd (j + 1) (k + 1) : Nat) : Int) := rfl
          rw [hG] at HG
          by_cases h1 : Nat.gcd (j + 1) (k + 1) = 1
          · have HN2 := Lib.hid (show D + 1 = phiC (k + 1) (j + 1) by rw [HD.out]; simp [phiC, h1])
            rw [h1] at HG
            clear hG h1 HD
            go_wp2_with fail
            refine (HG.out _).mono ?_; rintro e w1 ⟨rfl, hb1⟩
            go_wp2_with fail
            go_roundw
            case rel => exact ⟨j + 1, D + 1, by go_num, by go_num, by omega, HN2, Lib.hid (bfin T.out hb1)⟩
            case measure => simp [intOf]; omega
          · have HN2 := Lib.hid (show D = phiC (k + 1) (j + 1) by rw [HD.out]; simp [phiC, h1])
            have h1' : (((Nat.gcd (j + 1) (k + 1) : Nat) : Int) == 1) = false := by
              rw [beq_eq_false_iff_ne]; intro e; exact h1 (by exact_mod_cast e)
            generalize ((Nat.gcd (j + 1) (k + 1) : Nat) : Int) = G at *
            clear hG h1 HD
            go_wp2_with fail
            refine (HG.out _).mono ?_; rintro e w1 ⟨rfl, hb1⟩
            go_wp2_with fail
            go_roundw
            case rel => exact ⟨j + 1, D, rfl, by go_num, by omega, HN2, Lib.hid (bfin T.out hb1)⟩
            case measure => simp [intOf]; omega
        · obtain rfl : j = k + 1 := by omega
          have hlt4 : ¬ (((k + 1 : Nat) : Int) + 1 ≤ (k : Int) + 1) := by omega
          have HN2 := Lib.hid (show C + D = cntF (k + 1) by rw [HD.out]; exact HN.out)
          clear HN HD
          go_wp2_with fail
          go_roundw
          case rel => exact ⟨k + 1, C + D, by go_num, by go_num, by omega, HN2, T⟩
          case measure => simp [intOf]; omega
    · obtain rfl : k = n := by omega
      have hlt2 : ¬ (k : Int) + 1 ≤ (k : Int) := by omega
      go_wp2_with fail
      go_ret2
      have hCC := HC.out
      subst hCC
      exact ⟨rfl, T.out⟩
end Go.Proofs.YtjnkogkpdbgohaaGreatDoor
