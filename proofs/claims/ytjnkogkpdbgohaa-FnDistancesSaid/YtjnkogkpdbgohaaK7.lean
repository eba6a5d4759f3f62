/- Contracts: the program's distance of two fractions. -/
import Derived.Test.YtjnkogkpdbgohaaK1
import Derived.Test.YtjnkogkpdbgohaaNa
import Derived.Test.YtjnkogkpdbgohaaBase2
namespace Go.Proofs.Ytjnkogkpdbgohaa
open Go.RowKit
theorem abs_inK {x : Int} {K : Nat} (h : x.natAbs ≤ K) : -(K : Int) ≤ x ∧ x ≤ K := by omega
set_option maxHeartbeats 1000000 in
theorem bezout_bd (P Q : Int) (w : World) (hP : P.natAbs ≤ 10000) (hQ : Q.natAbs ≤ 10000) (hg : (Int.gcd P Q : Int) = 1) :
    Calls Try.prog 40 #[(.int .i64 P), (.int .i64 Q)] w fun e w' => ∃ r s : Int, e = .returned (.tuple #[(.int .i64 r), (.int .i64 s)]) ∧ P * s - Q * r = 1 ∧ (-10000 ≤ r ∧ r ≤ 10000) ∧ (-10000 ≤ s ∧ s ≤ 10000) ∧ Below w.heap.size w w' := by
  have HS := Lib.hid (bez_start (K := 10000) hP hQ (by omega) (cop_gcd hg))
  clear hg
  go_enter Try.func40, Try.ntmps40
  go_wp2_with fail
  go_loopw [0, 1, 6, 7, 8, 9] (fun v0 v1 v6 v7 v8 v9 wr => ∃ p q a b c d : Int, v0 = (.int .i64 p) ∧ v1 = (.int .i64 q) ∧ v6 = (.int .i64 a) ∧ v7 = (.int .i64 b) ∧ v8 = (.int .i64 c) ∧ v9 = (.int .i64 d) ∧ Hid (Bez 10000 P Q p q a b c d) ∧ Below w.heap.size w wr) (fun _ v1 _ _ _ _ _ => (intOf v1).natAbs)
  case atStart => exact ⟨_, _, _, _, _, _, rfl, rfl, rfl, rfl, rfl, rfl, HS, Below.refl _ _⟩
  case round =>
    obtain ⟨p, q, a, b, c, d, rfl, rfl, rfl, rfl, rfl, rfl, HZ, hb⟩ := hrel
    obtain ⟨p0, p1⟩ := abs_inK HZ.out.hp
    obtain ⟨q0, q1⟩ := abs_inK HZ.out.hq
    obtain ⟨a0, a1⟩ := abs_inK HZ.out.e1.bd.1
    obtain ⟨b0, b1⟩ := abs_inK HZ.out.e2.bd.1
    by_cases hq : q = 0
    · subst hq
      have hpp := HZ.out.cop.unit
      have hp1 : p = 1 ∨ p = -1 := by
        have := Int.natAbs_mul_self (a := p)
        rw [hpp] at this
        have h2 : p.natAbs * p.natAbs = 1 := by exact_mod_cast this
        have := Nat.eq_one_of_mul_eq_one_left h2
        omega
      have hD := Lib.hid HZ.out.done
      clear HZ hpp
      rcases hp1 with rfl | rfl
      · go_wp2_with fail
        go_ret2
        exact ⟨-b, a, rfl, by simpa using hD.out, by omega, by omega, hb⟩
      · go_wp2_with fail
        go_ret2
        exact ⟨b, -a, rfl, by simpa using hD.out, by omega, by omega, hb⟩
    · obtain ⟨hZ, hl, h1, h2, h3, h4, h5, h6⟩ := HZ.out.step hq
      obtain ⟨c0, c1⟩ := abs_inK h1
      obtain ⟨d0, d1⟩ := abs_inK h2
      obtain ⟨e0, e1⟩ := abs_inK h3
      obtain ⟨f0, f1⟩ := abs_inK h4
      obtain ⟨g0, g1⟩ := abs_inK h5
      obtain ⟨n0, n1⟩ := abs_inK h6
      obtain ⟨r0, r1⟩ := abs_inK (show (p - Int.tdiv p q * q).natAbs ≤ 10000 by have := HZ.out.hq; omega)
      have HZ' := Lib.hid hZ
      clear hZ h1 h2 h3 h4 h5 h6
      go_wp2_with fail
      go_roundw
      case rel => exact ⟨_, _, _, _, _, _, rfl, rfl, rfl, rfl, rfl, rfl, HZ', hb⟩
      case measure => simpa [intOf] using hl
theorem floor_neg (a b : Int) (w : World) (a0 : -9000000000000000000 ≤ a) (a1 : a ≤ 9000000000000000000) (b0 : b < 0) (b1 : -9000000000000000000 ≤ b) :
    Calls Try.prog 55 #[(.int .i64 a), (.int .i64 b)] w fun e w' => e = .returned (.int .i64 ((-a) / (-b))) ∧ w = w' := by
  have hne : b ≠ 0 := by omega
  have hb1 : -9223372036854775808 ≤ a.tdiv b - 1 ∧ a.tdiv b ≤ 9223372036854775807 := by
    have := Int.natAbs_tdiv a b
    have h2 : a.natAbs / b.natAbs ≤ a.natAbs := Nat.div_le_self _ _
    have h3 : (a.tdiv b).natAbs = a.natAbs / b.natAbs := by rw [this]; rfl
    omega
  obtain ⟨hb2, hb3⟩ := hb1
  obtain ⟨R, hR⟩ : ∃ R, (-a) / (-b) = R := ⟨_, rfl⟩
  rw [hR]
  have HR := Lib.hid hR
  clear hR
  have e1 : (-a).tdiv (-b) = a.tdiv b := Int.neg_tdiv_neg a b
  have e2 : (-a).tmod (-b) = -(a.tmod b) := by rw [Int.tmod_neg, Int.neg_tmod]
  by_cases hz : a.tmod b = 0
  · have hz' : (a.tmod b != 0) = false := by simp [hz]
    have HZ := Lib.hid (show (-a).tmod (-b) = 0 by rw [e2, hz]; rfl)
    have HE := Lib.hid e1
    by_cases ha : a < 0
    · clear hz e1 e2
      go_enter Try.func55, Try.ntmps55
      go_wp2
      go_ret
      exact ⟨ret_int (by rw [← HE.out, ← HR.out]; exact floor_z HZ.out), rfl⟩
    · have hm : a % b = 0 := by rw [← Int.tmod_eq_emod_of_nonneg (by omega)]; exact hz
      clear hz e1 e2
      go_enter Try.func55, Try.ntmps55
      go_wp2
      all_goals
        go_ret
        exact ⟨ret_int (by rw [← HE.out, ← HR.out]; exact floor_z HZ.out), rfl⟩
  · have hz' : (a.tmod b != 0) = true := by simp [hz]
    have HZ := Lib.hid (show (-a).tmod (-b) ≠ 0 by rw [e2]; omega)
    have HE := Lib.hid e1
    by_cases ha : a < 0
    · clear e1 e2
      go_enter Try.func55, Try.ntmps55
      go_wp2
      go_ret
      exact ⟨ret_int (by rw [← HE.out, ← HR.out]; exact floor_p (by omega)), rfl⟩
    · have ha2 : a ≠ 0 := by rintro rfl; simp at hz
      have hm : ¬ a % b = 0 := by rw [← Int.tmod_eq_emod_of_nonneg (by omega)]; exact hz
      clear e1 e2 hz
      go_enter Try.func55, Try.ntmps55
      go_wp2
      all_goals
        go_ret
        exact ⟨ret_int (by rw [← HE.out, ← HR.out]; exact floor_t (by omega) HZ.out (by omega)), rfl⟩
/-- The nearest whole number. -/
def nearK (p q : Int) : Int := if 0 < q then (2 * p + q) / (2 * q) else (-(2 * p + q)) / (-(2 * q))
theorem near_pos {p q : Int} (hq : 0 < q) : 2 * ((p - (2 * p + q) / (2 * q) * q).natAbs : Int) ≤ q := by
  have h0 := Int.mul_ediv_add_emod (2 * p + q) (2 * q)
  have h1 := Int.emod_nonneg (2 * p + q) (show 2 * q ≠ 0 by omega)
  have h2 := Int.emod_lt_of_pos (2 * p + q) (show 0 < 2 * q by omega)
  generalize (2 * p + q) / (2 * q) = k at *
  generalize (2 * p + q) % (2 * q) = m at *
  have e : 2 * q * k = 2 * (k * q) := by grind
  omega
theorem nearK_half {p q : Int} (hq : q ≠ 0) : 2 * ((p - nearK p q * q).natAbs : Int) ≤ (q.natAbs : Int) := by
  unfold nearK
  by_cases h : 0 < q
  · rw [if_pos h]
    have := near_pos (p := p) h
    omega
  · rw [if_neg h]
    have h2 := near_pos (p := -p) (q := -q) (by omega)
    have e : (-(2 * p + q)) / (-(2 * q)) = (2 * -p + -q) / (2 * -q) := by
      rw [show -(2 * p + q) = 2 * -p + -q by omega, show -(2 * q) = 2 * -q by omega]
    rw [e]
    generalize (2 * -p + -q) / (2 * -q) = k at *
    have e2 : -p - k * -q = -(p - k * q) := by grind
    rw [e2] at h2
    omega
set_option maxHeartbeats 1000000 in
theorem floorK_any (p q : Int) (w : World) (hq : q ≠ 0) (p0 : -1000000000000000 ≤ p) (p1 : p ≤ 1000000000000000) (q0 : -1000000000000000 ≤ q) (q1 : q ≤ 1000000000000000) :
    Calls Try.prog 55 #[(.int .i64 (2 * p + q)), (.int .i64 (2 * q))] w fun e w' => e = .returned (.int .i64 (nearK p q)) ∧ w = w' := by
  unfold nearK
  by_cases h : 0 < q
  · rw [if_pos h]; exact floor_any _ _ w (by omega) (by omega) (by omega) (by omega)
  · rw [if_neg h]; exact floor_neg _ _ w (by omega) (by omega) (by omega) (by omega)
/-- What holds on the way to infinity, behind n steps. -/
structure ToInf (P Q p q : Int) (n : Nat) : Prop where
  back : ∀ m, IsD vInf ⟨p, q⟩ m → IsD vInf ⟨P, Q⟩ (m + n)
  cop : Int.gcd p q = 1
  p0 : p.natAbs ≤ 1000000000000
  q0 : q.natAbs ≤ 1000000000000
  n0 : n + q.natAbs ≤ 1000000000000
theorem ToInf.step {P Q p q : Int} {n : Nat} (h : ToInf P Q p q n) (hq : q ≠ 0) : ToInf P Q q ((p - nearK p q * q).natAbs : Int) (n + 1) ∧ (p - nearK p q * q).natAbs < q.natAbs := by
  obtain ⟨back, cop, p0, q0, n0⟩ := h
  have hh := nearK_half (p := p) hq
  have hlt : (p - nearK p q * q).natAbs < q.natAbs := by omega
  refine ⟨⟨fun m hm => ?_, ?_, by omega, by omega, by omega⟩, hlt⟩
  · have := back _ (far_step cop hq hh hm)
    rwa [show m + 1 + n = m + (n + 1) by omega] at this
  · have e : Int.gcd (p - nearK p q * q) q = 1 := by rw [Int.gcd_sub_mul_right_left]; exact cop
    rw [Int.gcd_comm]
    simpa [Int.gcd] using e
set_option maxRecDepth 100000 in
set_option maxHeartbeats 1000000 in
theorem fromInfinity_any (P Q : Int) (w : World) (hg : Int.gcd P Q = 1) (hP : P.natAbs ≤ 1000000000) (hQ : Q.natAbs ≤ 1000000000) :
    Calls Try.prog 41 #[(.int .i64 P), (.int .i64 Q)] w fun e w' => ∃ n : Nat, e = .returned (.int .i64 ((n : Int))) ∧ IsD vInf ⟨P, Q⟩ n ∧ Below w.heap.size w w' := by
  have HS := Lib.hid (show ToInf P Q P Q 0 from ⟨fun m hm => hm, hg, by omega, by omega, by omega⟩)
  clear hg
  go_enter Try.func41, Try.ntmps41
  go_wp2_with fail
  go_loopw [0, 1, 5, 6] (fun v0 v1 v5 _ wr => ∃ (p q : Int) (n : Nat), v0 = (.int .i64 p) ∧ v1 = (.int .i64 q) ∧ v5 = (.int .i64 ((n : Int))) ∧ Hid (ToInf P Q p q n) ∧ Below w.heap.size w wr) (fun _ v1 _ _ _ => (intOf v1).natAbs)
  case atStart => exact ⟨P, Q, 0, rfl, rfl, rfl, HS, Below.refl _ _⟩
  case round =>
    obtain ⟨p, q, n, rfl, rfl, rfl, HZ, hb⟩ := hrel
    have hp := HZ.out.p0
    have hqb := HZ.out.q0
    have hn := HZ.out.n0
    by_cases hq : q = 0
    · subst hq
      have HE := Lib.hid (HZ.out.back 0 (far_end HZ.out.cop))
      clear HZ
      go_wp2_with fail
      go_ret
      refine ⟨n, rfl, ?_, hb⟩
      have := HE.out
      rwa [Nat.zero_add] at this
    · obtain ⟨hZ, hlt⟩ := HZ.out.step hq
      have HF := Lib.hid (fun W => floorK_any p q W hq (by omega) (by omega) (by omega) (by omega))
      have HZ' := Lib.hid hZ
      clear hZ HZ
      have hr : -1000000000000 ≤ p - nearK p q * q ∧ p - nearK p q * q ≤ 1000000000000 := by omega
      generalize hk : nearK p q = k at *
      obtain ⟨r0, r1⟩ := hr
      have hkq : -2000000000000 ≤ k * q ∧ k * q ≤ 2000000000000 := by omega
      obtain ⟨k0, k1⟩ := hkq
      have HSz := Lib.hid (fun W => size_any (p - k * q) W (by omega) (by omega))
      have h2p : -2000000000000 ≤ 2 * p ∧ 2 * p ≤ 2000000000000 := by omega
      obtain ⟨p2, p3⟩ := h2p
      have q2 : -1000000000000 ≤ q := by omega
      have q3 : q ≤ 1000000000000 := by omega
      clear hk
      go_wp2_with fail
      refine (HF.out _).mono ?_; rintro e w' ⟨rfl, rfl⟩
      go_wp2_with fail
      refine (HSz.out _).mono ?_; rintro e w' ⟨rfl, rfl⟩
      go_wp2_with fail
      go_roundw
      case rel => exact ⟨_, _, n + 1, rfl, rfl, by go_num, HZ', hb⟩
      case measure => simpa [intOf] using hlt
end Go.Proofs.Ytjnkogkpdbgohaa
