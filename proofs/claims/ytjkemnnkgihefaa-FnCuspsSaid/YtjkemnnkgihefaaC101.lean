/- Contracts: genera; the law GenusOf. -/
import Derived.Test.YtjkemnnkgihefaaC100
namespace Go.Proofs.Ytjkemnnkgihefaa
open Go.RowKit
def genV (len : Nat) (y z c : Int) : Int := Int.tdiv (12 + len - 3 * y - 4 * z - 6 * c) 12
def genRes (n : Int) : Int × Int := if inB n 1 60 = true then (genV (lineL n).length (keptC (movedL n (lineL n) 0 (-1) 1 0) (lineL n).length) (keptC (movedL n (lineL n) 1 (-1) 1 0) (lineL n).length) (cusN (cosP n) (cosP n).length).2, 0) else (0, 2)
theorem tdiv12_bd {x : Int} (h0 : -1000000 ≤ x) (h1 : x ≤ 1000000) : -1000000 ≤ Int.tdiv x 12 ∧ Int.tdiv x 12 ≤ 1000000 := by
  rcases Int.le_total 0 x with h | h
  · rw [Int.tdiv_eq_ediv_of_nonneg h]; omega
  · obtain ⟨y, rfl⟩ : ∃ y, x = -y := ⟨-x, by omega⟩
    rw [Int.neg_tdiv, Int.tdiv_eq_ediv_of_nonneg (by omega)]; omega
set_option maxRecDepth 100000 in
set_option maxHeartbeats 1000000 in
theorem GenusOf_any (n : Int) (w : World) :
    Calls Try.prog 17 #[(.int .i64 n)] w fun e w' => e = .returned (.tuple #[(.int .i64 ((genRes n).1)), (.int .i64 ((genRes n).2))]) ∧ Below w.heap.size w w' := by
  have H1 := Lib.hid (fun W => isLevel_any n W)
  cases hn : inB n 1 60
  · rw [show genRes n = (0, 2) by simp [genRes, hn]]
    rw [hn] at H1
    go_enter Try.func17, Try.ntmps17
    go_wp2_with fail
    refine (H1.out _).mono ?_; rintro e w' ⟨rfl, rfl⟩
    go_wp2_with fail
    go_ret2
    exact ⟨rfl, Below.refl _ _⟩
  · have HK := Lib.hid (fun W => CountKept_any n W)
    rw [show genRes n = (genV (lineL n).length (keptC (movedL n (lineL n) 0 (-1) 1 0) (lineL n).length) (keptC (movedL n (lineL n) 1 (-1) 1 0) (lineL n).length) (cusN (cosP n) (cosP n).length).2, 0) by simp [genRes, hn]]
    rw [show keptRes n = ((keptC (movedL n (lineL n) 0 (-1) 1 0) (lineL n).length, keptC (movedL n (lineL n) 1 (-1) 1 0) (lineL n).length), 0) by simp [keptRes, hn]] at HK
    rw [hn] at H1
    obtain ⟨n0, n1⟩ := inB_iff.1 hn
    clear hn
    obtain ⟨N, rfl⟩ := Int.eq_ofNat_of_zero_le (show 0 ≤ n by omega)
    have HL := Lib.hid (fun W => line_any N W (by omega) (by omega))
    have HC := Lib.hid (fun W => cusps_any N W (by omega) (by omega))
    obtain ⟨hc, hl⟩ := cusN_bd (N := N) (by omega) (by omega)
    have kc0 := hc.c0
    have kc1 := hc.c1
    have kl : (cusL (cosP (N : Int))).length = (cusN (cosP (N : Int)) (cosP (N : Int)).length).2.toNat := by unfold cusL; rw [rowsC_len]
    have kc : ((cusL (cosP (N : Int))).length : Int) = (cusN (cosP (N : Int)) (cosP (N : Int)).length).2 := by omega
    rw [← kc]
    rw [← kc] at kc0 kc1
    rw [cosP_len] at kc1 hl
    clear kl kc hc
    have hy := keptC_bd (movedL (N : Int) (lineL N) 0 (-1) 1 0) (lineL (N : Int)).length
    have hz := keptC_bd (movedL (N : Int) (lineL N) 1 (-1) 1 0) (lineL (N : Int)).length
    generalize keptC (movedL (N : Int) (lineL N) 0 (-1) 1 0) (lineL (N : Int)).length = X at *
    generalize keptC (movedL (N : Int) (lineL N) 1 (-1) 1 0) (lineL (N : Int)).length = Y at *
    generalize cusL (cosP (N : Int)) = Q at *
    generalize lineL (N : Int) = L at *
    unfold genV
    have hb := tdiv12_bd (x := 12 + L.length - 3 * X - 4 * Y - 6 * Q.length) (by omega) (by omega)
    go_enter Try.func17, Try.ntmps17
    go_wp2_with fail
    refine (H1.out _).mono ?_; rintro e w' ⟨rfl, rfl⟩
    go_wp2_with fail
    refine (HK.out _).mono ?_; rintro e w1 ⟨rfl, hb1⟩
    go_wp2_with fail
    refine (HL.out _).mono ?_; rintro e w2 ⟨v, rfl, hown, hb2⟩
    obtain ⟨A, cap, rfl, -, -, -⟩ := own_view hown
    clear hown
    go_wp2_with fail
    refine (HC.out _).mono ?_; rintro e w3 ⟨v, inn, rfl, hs, hb3⟩
    obtain ⟨A2, cap2, rfl, -, -, -⟩ := own_view hs.out
    clear hs
    go_wp2_with fail
    go_ret2
    exact ⟨rfl, hb1.trans ((hb2.mono hb1.size).trans (hb3.mono (Nat.le_trans hb1.size hb2.size)))⟩
set_option maxRecDepth 100000 in
set_option maxHeartbeats 1000000 in
theorem sGenusOf_any (n : Int) (w : World) :
    Calls Try.prog 18 #[(.int .i64 n)] w fun e w' => e = .returned (.tuple #[(.int .i64 ((genRes n).1)), (.int .i64 ((genRes n).2))]) ∧ Below w.heap.size w w' := by
  have H1 := Lib.hid (fun W => l01In_any n 1 60 W)
  cases hn : inB n 1 60
  · rw [show genRes n = (0, 2) by simp [genRes, hn]]
    rw [hn] at H1
    go_enter Try.func18, Try.ntmps18
    go_wp2_with fail
    refine (H1.out _).mono ?_; rintro e w' ⟨rfl, rfl⟩
    go_wp2_with fail
    go_ret2
    exact ⟨rfl, Below.refl _ _⟩
  · rw [show genRes n = (genV (lineL n).length (keptC (movedL n (lineL n) 0 (-1) 1 0) (lineL n).length) (keptC (movedL n (lineL n) 1 (-1) 1 0) (lineL n).length) (cusN (cosP n) (cosP n).length).2, 0) by simp [genRes, hn]]
    rw [hn] at H1
    obtain ⟨n0, n1⟩ := inB_iff.1 hn
    clear hn
    obtain ⟨N, rfl⟩ := Int.eq_ofNat_of_zero_le (show 0 ≤ n by omega)
    have HL := Lib.hid (fun W => l06Line_any N W (by omega) (by omega))
    have HK := Lib.hid (fun v B inn W h => l06Kept_any N v B inn W (by omega) (by omega) h)
    have HC := Lib.hid (fun v B inn W h => l06Cusps_any N v B inn W (by omega) (by omega) h)
    obtain ⟨hc, hl⟩ := cusN_bd (N := N) (by omega) (by omega)
    have kc0 := hc.c0
    have kc1 := hc.c1
    rw [cosP_len] at kc1 hl
    clear hc
    have hy := keptC_bd (movedL (N : Int) (lineL N) 0 (-1) 1 0) (lineL (N : Int)).length
    have hz := keptC_bd (movedL (N : Int) (lineL N) 1 (-1) 1 0) (lineL (N : Int)).length
    rw [cosP_len] at kc0 ⊢
    rw [cosP_len] at HC
    generalize keptC (movedL (N : Int) (lineL N) 0 (-1) 1 0) (lineL (N : Int)).length = X at *
    generalize keptC (movedL (N : Int) (lineL N) 1 (-1) 1 0) (lineL (N : Int)).length = Y at *
    generalize (cusN (cosP (N : Int)) (lineL (N : Int)).length).2 = c at *
    generalize (cusN (cosP (N : Int)) (lineL (N : Int)).length).1 = M at *
    generalize lineL (N : Int) = L at *
    unfold genV
    have hb := tdiv12_bd (x := 12 + L.length - 3 * X - 4 * Y - 6 * c) (by omega) (by omega)
    go_enter Try.func18, Try.ntmps18
    go_wp2_with fail
    refine (H1.out _).mono ?_; rintro e w' ⟨rfl, rfl⟩
    go_wp2_with fail
    refine (HL.out _).mono ?_; rintro e w1 ⟨v, inn, rfl, hown, hb1⟩
    have HO := Lib.hid hown
    clear hown
    go_wp2_with fail
    refine (HK.out _ _ _ _ HO.out).mono ?_; rintro e w2 ⟨rfl, hb2⟩
    have HO2 := Lib.hid (HO.out.below hb2)
    go_wp2_with fail
    refine (HC.out _ _ _ _ HO2.out).mono ?_; rintro e w3 ⟨u, rfl, -, hb3⟩
    obtain ⟨A, cap, rfl, -, -, -⟩ := own_view HO2.out.out
    go_wp2_with fail
    go_ret2
    exact ⟨rfl, hb1.trans ((hb2.mono hb1.size).trans (hb3.mono (Nat.le_trans hb1.size hb2.size)))⟩
end Go.Proofs.Ytjkemnnkgihefaa
