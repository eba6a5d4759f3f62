/- Contracts: the sums of h and k. -/
import Derived.Test.YtkhlgphmimddhaaC31
import Derived.Test.YtkhlgphmimddhaaN14
namespace Go.Proofs.Ytkhlgphmimddhaa
open Go.RowKit
theorem rest_step {H K n : Nat} : ((((H * (n - 1) % K : Nat) : Int) + (H % K : Nat)).tmod K) = ((H * n % K : Nat) : Int) ∨ n = 0 := by
  rcases Nat.eq_zero_or_pos n with h | h
  · exact .inr h
  · left
    have e : ((H * (n - 1) % K : Nat) : Int) + (H % K : Nat) = ((H * (n - 1) % K + H % K : Nat) : Int) := by push_cast; rfl
    rw [e, ← Int.ofNat_tmod, ← Nat.add_mod, show H * (n - 1) + H = H * n by rw [← Nat.mul_succ]; congr 1; omega]
set_option maxHeartbeats 1000000 in
theorem fourTimes_any (h k : Int) (w : World) (k0 : 1 ≤ k) (k1 : k ≤ 20000) :
    Calls Try.prog 67 #[(.int .i64 h), (.int .i64 k)] w fun e w' => e = .returned (.int .i64 (fourZ h k)) ∧ w = w' := by
  obtain ⟨K, rfl⟩ := Int.eq_ofNat_of_zero_le (show 0 ≤ k by omega)
  have hH0 := Int.emod_nonneg h (show (K : Int) ≠ 0 by omega)
  have hH1 := Int.emod_lt_of_pos h (show 0 < (K : Int) by omega)
  have HR := Lib.hid (fun W => rest_any h K W (by omega) (by omega))
  have hz : fourZ h K = fourN (h % K).toNat K := by unfold fourZ; rw [Int.toNat_natCast]
  rw [hz]
  clear hz
  obtain ⟨H, hH⟩ := Int.eq_ofNat_of_zero_le hH0
  rw [hH] at HR hH0 hH1 ⊢
  rw [Int.toNat_natCast]
  clear hH
  have hHK : H < K := by omega
  go_enter Try.func67, Try.ntmps67
  go_wp2_with fail
  refine (HR.out _).mono ?_; rintro e w' ⟨rfl, rfl⟩
  go_wp2_with fail
  go_loop [5, 6, 7] (fun s r i => ∃ n : Nat, ∃ x y : Int, s = (.int .i64 x) ∧ r = (.int .i64 y) ∧ i = (.int .i64 ((n : Int))) ∧ 1 ≤ n ∧ n ≤ K ∧ Hid (x = S n (gT H K) - (K : Int) * K ∧ y = ((H * (n - 1) % K : Nat) : Int))) (fun _ _ i => K - (intOf i).toNat)
  case atStart => exact ⟨1, _, _, rfl, rfl, rfl, Nat.le_refl _, by omega, Lib.hid ⟨(part_start H K).symm, by simp⟩⟩
  case round =>
    obtain ⟨n, x, y, rfl, rfl, rfl, n0, n1, HX⟩ := hrel
    have xb : -8400000000000 ≤ x ∧ x ≤ 8400000000000 := by
      have h2 := part_bd (h := H) n1 (by omega)
      have h3 := mul_bd (a := (K : Int)) (b := (K : Int)) (A := 20000) (B := 20000) (by omega) (by omega) (by omega) (by omega)
      have := HX.out.1
      omega
    have yb : 0 ≤ y ∧ y < K := by
      have := HX.out.2
      have := Nat.mod_lt (H * (n - 1)) (show 0 < K by omega)
      omega
    obtain ⟨xb0, xb1⟩ := xb
    obtain ⟨yb0, yb1⟩ := yb
    by_cases hlt : n < K
    · have hr : (y + H).tmod K = ((H * n % K : Nat) : Int) := by
        rcases rest_step (H := H) (K := K) (n := n) with h | h
        · rw [Nat.mod_eq_of_lt hHK, ← HX.out.2] at h; exact h
        · omega
      have hb := Nat.mod_lt (H * n) (show 0 < K by omega)
      have HN := Lib.hid (show gT H K n = (2 * (n : Int) - K) * (2 * ((H * n % K : Nat) : Int) - K) from rfl)
      have hm := mul_bd (a := 2 * (n : Int) - K) (b := 2 * ((H * n % K : Nat) : Int) - K) (A := 20000) (B := 20000) (by omega) (by omega) (by omega) (by omega)
      obtain ⟨hm0, hm1⟩ := hm
      generalize hrr : ((H * n % K : Nat) : Int) = r at *
      have HRR := Lib.hid hrr
      clear hrr
      have r0 : 0 ≤ r := by have := HRR.out; omega
      have r1 : r < K := by have := HRR.out; omega
      clear hb
      have kn : (K : Int) ≠ 0 := by omega
      have hx : x + (2 * (n : Int) - K) * (2 * r - K) = S (n + 1) (gT H K) - (K : Int) * K := by rw [S_succ, HN.out]; have := HX.out.1; omega
      have HX2 := Lib.hid hx
      clear hx
      go_wp2_with fail
      go_round
      case rel => exact ⟨n + 1, _, _, rfl, rfl, by go_num, by omega, by omega, Lib.hid ⟨HX2.out, HRR.out.symm⟩⟩
      case measure => simp [intOf]; omega
    · obtain rfl : n = K := by omega
      go_wp2_with fail
      go_ret
      exact ⟨ret_int (by rw [HX.out.1]; rfl), rfl⟩
set_option maxHeartbeats 1000000 in
theorem l07Sum_all : ∀ (n : Nat) (h k : Int) (w : World), k.toNat ≤ n → 1 ≤ k → k ≤ 20000 → Int.gcd h k = 1 →
    Calls Try.prog 65 #[(.int .i64 h), (.int .i64 k)] w fun e w' => e = .returned (.int .i64 (lZ h k)) ∧ w = w'
  | 0, h, k, w, hn, k0, k1, hg => by omega
  | n + 1, h, k, w, hn, k0, k1, hg => by
    by_cases hk : k = 1
    · subst hk
      have e : lZ h 1 = 0 := by unfold lZ lN; rw [show (1 : Int).toNat = 1 from rfl, fourN_one]; rfl
      rw [e]
      clear e hg
      go_enter Try.func65, Try.ntmps65
      go_wp2_with fail
      go_ret
      exact ⟨rfl, rfl⟩
    · obtain ⟨h0, h1, g, quo⟩ := lZ_rec (show 1 < k by omega) hg
      have hl := lZ_bd (h := k) (k := h % k) (by omega) (by omega) g
      have HI := Lib.hid (fun W => l07Sum_all n k (h % k) W (by omega) (by omega) (by omega) g)
      have HM := Lib.hid (fun W => l01Mod_any h k W (by omega) (by omega))
      have hlz := lZ_bd k0 k1 hg
      generalize lZ h k = L at *
      generalize lZ k (h % k) = M at *
      generalize h % k = r at *
      have m1 := mul_bd (a := r) (b := r) (A := 20000) (B := 20000) (by omega) (by omega) (by omega) (by omega)
      have m2 := mul_bd (a := k) (b := k) (A := 20000) (B := 20000) (by omega) (by omega) (by omega) (by omega)
      have m3 := mul_bd (a := 3 * r) (b := k) (A := 60000) (B := 20000) (by omega) (by omega) (by omega) (by omega)
      have m4 := mul_bd (a := k) (b := M) (A := 20000) (B := 26000000000000) (by omega) (by omega) (by omega) (by omega)
      obtain ⟨m10, m11⟩ := m1
      obtain ⟨m20, m21⟩ := m2
      obtain ⟨m30, m31⟩ := m3
      obtain ⟨m40, m41⟩ := m4
      obtain ⟨l0, l1⟩ := hlz
      obtain ⟨n0, n1⟩ := hl
      have rn : r ≠ 0 := by omega
      clear hg g
      go_enter Try.func65, Try.ntmps65
      go_wp2_with fail
      refine (HM.out _).mono ?_; rintro e w' ⟨rfl, rfl⟩
      go_wp2_with fail
      refine (HI.out _).mono ?_; rintro e w' ⟨rfl, rfl⟩
      go_wp2_with fail
      go_ret
      exact ⟨rfl, rfl⟩
end Go.Proofs.Ytkhlgphmimddhaa
