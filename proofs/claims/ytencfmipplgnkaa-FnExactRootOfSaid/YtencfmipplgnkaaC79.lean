/- Contracts: powers and their traces; the trace of a root. -/
import Derived.Test.YtencfmipplgnkaaC70
import Derived.Test.YtencfmipplgnkaaN43
namespace Go.Proofs.Ytencfmipplgnkaa
open Go.RowKit
theorem tr_pos {s : Int} (hs : 3 ≤ s) (k : Nat) : 2 ≤ tr s k := (tr_up hs k).1
structure PwBd (s : Int) (k : Nat) (M : Int) : Prop where
  t0 : 2 ≤ tr s k
  t1 : tr s k ≤ M
  u0 : 0 ≤ un s k
  u1 : un s k ≤ M
  m0 : 0 ≤ s * tr s k
  m1 : s * tr s k ≤ 100000 * M
  n0 : 0 ≤ s * un s k
  n1 : s * un s k ≤ 100000 * M
theorem pwBd {s M : Int} (hs : 3 ≤ s) (h2 : s ≤ 100000) {k : Nat} (h : tr s k ≤ M) : PwBd s k M := by
  have a := (tr_up hs k).1
  have b := (un_up hs k).1
  have c := (un_tr hs k).1
  have e1 := Int.mul_le_mul h2 h (by omega) (by omega)
  have e2 := Int.mul_le_mul h2 (show un s k ≤ M by omega) b (by omega)
  exact ⟨a, h, b, by omega, Int.mul_nonneg (by omega) (by omega), e1, Int.mul_nonneg (by omega) b, e2⟩
/-- What powers tells. -/
def pwV (s : Int) (k : Nat) : Int × Int × Int := if tr s k ≤ 4000000000 then (tr s k, un s k, un s (k - 1)) else (-1, 0, 0)
theorem pwV_ok {s : Int} {k : Nat} (h : tr s k ≤ 4000000000) : pwV s k = (tr s k, un s k, un s (k - 1)) := if_pos h
theorem pwV_no {s : Int} {k : Nat} (h : ¬ tr s k ≤ 4000000000) : pwV s k = (-1, 0, 0) := if_neg h
set_option maxRecDepth 100000 in
set_option maxHeartbeats 1000000 in
theorem powers_any (s : Int) (k : Nat) (w : World) (hs : 3 ≤ s) (h2 : s ≤ 100000) (hk : 1 ≤ k) (hk2 : k ≤ 100) :
    Calls Try.prog 71 #[(.int .i64 s), (.int .i64 ((k : Int)))] w fun e w' => e = .returned (.tuple #[(.int .i64 ((pwV s k).1)), (.int .i64 ((pwV s k).2.1)), (.int .i64 ((pwV s k).2.2))]) ∧ w = w' := by
  go_enter Try.func71, Try.ntmps71
  go_wp2_with fail
  go_loop [7, 8, 9, 10, 14] (fun p q r t i => ∃ j : Nat, i = (.int .i64 ((j : Int))) ∧ j + 1 ≤ k ∧ Hid (p = (.int .i64 (un s j)) ∧ q = (.int .i64 (un s (j + 1))) ∧ r = (.int .i64 (tr s j)) ∧ t = (.int .i64 (tr s (j + 1))) ∧ tr s (j + 1) ≤ 4000000000)) (fun _ _ _ _ i => k - (intOf i).toNat)
  case atStart => exact ⟨0, rfl, by omega, Lib.hid ⟨by rw [un_zero], by rw [un_one], by rw [tr_zero], by rw [tr_one], by rw [tr_one]; omega⟩⟩
  case round =>
    obtain ⟨j, rfl, hj, HR⟩ := hrel
    obtain ⟨rfl, rfl, rfl, rfl, hle⟩ := HR.out
    clear HR
    obtain ⟨t0, t1, u0, u1, m0, m1, n0, n1⟩ := pwBd hs h2 hle
    have a1 := tr_up hs j
    have a2 := un_up hs j
    by_cases hlt : j + 1 < k
    · have HT := Lib.hid (tr_step s j)
      have HU := Lib.hid (un_step s j)
      by_cases hbig : 4000000000 < s * tr s (j + 1) - tr s j
      · have HV := Lib.hid (pwV_no (show ¬ tr s k ≤ 4000000000 by have := tr_le hs (show j + 2 ≤ k by omega); rw [tr_step] at this; omega))
        go_wp2_with fail
        go_ret3
        exact ⟨by rw [HV.out]; rfl, rfl⟩
      · have hle2 := Lib.hid (show tr s (j + 2) ≤ 4000000000 by rw [HT.out]; omega)
        go_wp2_with fail
        go_round
        case rel => exact ⟨j + 1, by go_num, by omega, Lib.hid ⟨rfl, by rw [HU.out], rfl, by rw [HT.out], hle2.out⟩⟩
        case measure => simp [intOf]; omega
    · obtain rfl : k = j + 1 := by omega
      have HV := Lib.hid (pwV_ok hle)
      rw [Nat.add_sub_cancel] at HV
      go_wp2_with fail
      go_ret3
      exact ⟨by rw [HV.out]; rfl, rfl⟩
/-- What the model's powers tells. -/
def pwT (s : Int) (k : Nat) (t : Int) : Int × Int × Int := if k = 1 ∨ tr s k ≤ t then (tr s k, un s k, un s (k - 1)) else (0, 0, 0)
theorem pwT_ok {s t : Int} {k : Nat} (h : k = 1 ∨ tr s k ≤ t) : pwT s k t = (tr s k, un s k, un s (k - 1)) := if_pos h
theorem pwT_no {s t : Int} {k : Nat} (h : 2 ≤ k) (h2 : ¬ tr s k ≤ t) : pwT s k t = (0, 0, 0) := if_neg (by omega)
set_option maxRecDepth 100000 in
set_option maxHeartbeats 1000000 in
theorem l04Powers_any (s t : Int) (k : Nat) (w : World) (hs : 3 ≤ s) (h2 : s ≤ 100000) (hk : 1 ≤ k) (hk2 : k ≤ 100) (ht0 : 3 ≤ t) (ht : t ≤ 2000000000) :
    Calls Try.prog 117 #[(.int .i64 s), (.int .i64 ((k : Int))), (.int .i64 t)] w fun e w' => e = .returned (.tuple #[(.int .i64 ((pwT s k t).1)), (.int .i64 ((pwT s k t).2.1)), (.int .i64 ((pwT s k t).2.2))]) ∧ w = w' := by
  go_enter Try.func117, Try.ntmps117
  go_wp2_with fail
  go_loop [9, 10, 11, 12, 13] (fun p q r v i => ∃ j : Nat, i = (.int .i64 ((j : Int) + 1)) ∧ j + 1 ≤ k ∧ Hid (p = (.int .i64 (un s j)) ∧ q = (.int .i64 (un s (j + 1))) ∧ r = (.int .i64 (tr s j)) ∧ v = (.int .i64 (tr s (j + 1))) ∧ (j = 0 ∨ tr s (j + 1) ≤ t) ∧ tr s (j + 1) ≤ 2000000000)) (fun _ _ _ _ i => k + 1 - (intOf i).toNat)
  case atStart => exact ⟨0, by go_num, by omega, Lib.hid ⟨by rw [un_zero], by rw [un_one], by rw [tr_zero], by rw [tr_one], .inl rfl, by rw [tr_one]; omega⟩⟩
  case round =>
    obtain ⟨j, rfl, hj, HR⟩ := hrel
    obtain ⟨rfl, rfl, rfl, rfl, hor, hle⟩ := HR.out
    clear HR
    obtain ⟨t0, t1, u0, u1, m0, m1, n0, n1⟩ := pwBd hs h2 hle
    have a1 := tr_up hs j
    have a2 := un_up hs j
    have HO := Lib.hid hor
    clear hor
    by_cases hlt : j + 1 < k
    · have HT := Lib.hid (tr_step s j)
      have HU := Lib.hid (un_step s j)
      by_cases hbig : t < s * tr s (j + 1) - tr s j
      · have HV := Lib.hid (pwT_no (show 2 ≤ k by omega) (show ¬ tr s k ≤ t by have := tr_le hs (show j + 2 ≤ k by omega); rw [tr_step] at this; omega))
        go_wp2_with fail
        go_ret3
        exact ⟨by rw [HV.out]; rfl, rfl⟩
      · have hle2 := Lib.hid (show tr s (j + 2) ≤ t by rw [HT.out]; omega)
        go_wp2_with fail
        go_round
        case rel => exact ⟨j + 1, by go_num, by omega, Lib.hid ⟨rfl, by rw [HU.out], rfl, by rw [HT.out], .inr hle2.out, Int.le_trans (show tr s (j + 1 + 1) ≤ t from hle2.out) ht⟩⟩
        case measure => simp [intOf]; omega
    · obtain rfl : k = j + 1 := by omega
      have HV := Lib.hid (pwT_ok (s := s) (t := t) (show j + 1 = 1 ∨ tr s (j + 1) ≤ t by rcases HO.out with h | h; exact .inl (by omega); exact .inr h))
      rw [Nat.add_sub_cancel] at HV
      clear HO
      go_wp2_with fail
      go_ret3
      exact ⟨by rw [HV.out]; rfl, rfl⟩
end Go.Proofs.Ytencfmipplgnkaa
