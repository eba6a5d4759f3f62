/- Plain: what the law of cusps tells: one cusp for fractions that the group leads to each other; counts of a level. -/
import Derived.Test.YtjkemnnkgihefaaE5B
import Derived.Test.YtjkemnnkgihefaaE5C
import Derived.Test.YtjkemnnkgihefaaE5D
import Derived.Test.YtjkemnnkgihefaaE5F
import Derived.Test.YtjkemnnkgihefaaE5G
import Derived.Test.YtjkemnnkgihefaaE6
import Derived.Test.YtjkemnnkgihefaaC104
import Derived.Test.YtjkemnnkgihefaaCd
namespace Go.Proofs.Ytjkemnnkgihefaa
open Go.RowKit
theorem genOk_all {n : Nat} (h0 : 0 < n) (h1 : n ≤ 60) : genOk n = true := by
  match n, h0, h1 with
  | 1, _, _ => exact genOk_1
  | 2, _, _ => exact genOk_2
  | 3, _, _ => exact genOk_3
  | 4, _, _ => exact genOk_4
  | 5, _, _ => exact genOk_5
  | 6, _, _ => exact genOk_6
  | 7, _, _ => exact genOk_7
  | 8, _, _ => exact genOk_8
  | 9, _, _ => exact genOk_9
  | 10, _, _ => exact genOk_10
  | 11, _, _ => exact genOk_11
  | 12, _, _ => exact genOk_12
  | 13, _, _ => exact genOk_13
  | 14, _, _ => exact genOk_14
  | 15, _, _ => exact genOk_15
  | 16, _, _ => exact genOk_16
  | 17, _, _ => exact genOk_17
  | 18, _, _ => exact genOk_18
  | 19, _, _ => exact genOk_19
  | 20, _, _ => exact genOk_20
  | 21, _, _ => exact genOk_21
  | 22, _, _ => exact genOk_22
  | 23, _, _ => exact genOk_23
  | 24, _, _ => exact genOk_24
  | 25, _, _ => exact genOk_25
  | 26, _, _ => exact genOk_26
  | 27, _, _ => exact genOk_27
  | 28, _, _ => exact genOk_28
  | 29, _, _ => exact genOk_29
  | 30, _, _ => exact genOk_30
  | 31, _, _ => exact genOk_31
  | 32, _, _ => exact genOk_32
  | 33, _, _ => exact genOk_33
  | 34, _, _ => exact genOk_34
  | 35, _, _ => exact genOk_35
  | 36, _, _ => exact genOk_36
  | 37, _, _ => exact genOk_37
  | 38, _, _ => exact genOk_38
  | 39, _, _ => exact genOk_39
  | 40, _, _ => exact genOk_40
  | 41, _, _ => exact genOk_41
  | 42, _, _ => exact genOk_42
  | 43, _, _ => exact genOk_43
  | 44, _, _ => exact genOk_44
  | 45, _, _ => exact genOk_45
  | 46, _, _ => exact genOk_46
  | 47, _, _ => exact genOk_47
  | 48, _, _ => exact genOk_48
  | 49, _, _ => exact genOk_49
  | 50, _, _ => exact genOk_50
  | 51, _, _ => exact genOk_51
  | 52, _, _ => exact genOk_52
  | 53, _, _ => exact genOk_53
  | 54, _, _ => exact genOk_54
  | 55, _, _ => exact genOk_55
  | 56, _, _ => exact genOk_56
  | 57, _, _ => exact genOk_57
  | 58, _, _ => exact genOk_58
  | 59, _, _ => exact genOk_59
  | 60, _, _ => exact genOk_60
  | n + 61, _, h => exact absurd h (by omega)
structure LevelUse (L : Int) : Prop where
  own : cuspRes L = (((cspRes L).n : Int), 0)
  idx : idxRes 0 L = (((lineL L).length : Int), 0)
  kept : (keptRes L).2 = 0
  gen : (genRes L).2 = 0
  pos : 0 ≤ (genRes L).1
  eq : 12 * (genRes L).1 = 12 + ((lineL L).length : Int) - 3 * (keptRes L).1.1 - 4 * (keptRes L).1.2 - 6 * ((cspRes L).n : Int)
  y0 : 0 ≤ (keptRes L).1.1 ∧ (keptRes L).1.1 ≤ 3600
  z0 : 0 ≤ (keptRes L).1.2 ∧ (keptRes L).1.2 ≤ 3600
  l0 : (lineL L).length ≤ 3600
  g1 : (genRes L).1 ≤ 1000000
theorem level_use {L : Int} (h : (cspRes L).c = 0) : LevelUse L := by
  have hn : inB L 1 60 = true := by
    unfold cspRes at h
    split at h
    · assumption
    · simp at h
  obtain ⟨n0, n1⟩ := inB_iff.1 hn
  obtain ⟨N, rfl⟩ := Int.eq_ofNat_of_zero_le (show 0 ≤ L by omega)
  have hN : 0 < N := by omega
  have hF := genFact_of hN (genOk_all hN (by omega))
  obtain ⟨hc, -⟩ := cusN_bd (N := N) hN (by omega)
  have hlen := lineL_len (n := (N : Int)) n1
  have e1 : cspRes (N : Int) = ⟨cusL (cosP N), (cusL (cosP N)).length, 0⟩ := by simp [cspRes, hn]
  have e2 : (((cusL (cosP (N : Int))).length : Nat) : Int) = (cusN (cosP (N : Int)) (cosP (N : Int)).length).2 := by
    unfold cusL
    rw [rowsC_len]
    exact Int.toNat_of_nonneg hc.c0
  have e3 : keptRes (N : Int) = ((keptC (movedL N (lineL N) 0 (-1) 1 0) (lineL N).length, keptC (movedL N (lineL N) 1 (-1) 1 0) (lineL N).length), 0) := by simp [keptRes, hn]
  have e4 : genRes (N : Int) = (genV (lineL (N : Int)).length (keptC (movedL N (lineL N) 0 (-1) 1 0) (lineL N).length) (keptC (movedL N (lineL N) 1 (-1) 1 0) (lineL N).length) (cusN (cosP N) (cosP N).length).2, 0) := by simp [genRes, hn]
  have hy := keptC_bd (movedL N (lineL N) 0 (-1) 1 0) (lineL (N : Int)).length
  have hz := keptC_bd (movedL N (lineL N) 1 (-1) 1 0) (lineL (N : Int)).length
  obtain ⟨f1, f2, f3⟩ := hF
  have hV : 12 * genV (lineL (N : Int)).length (keptC (movedL N (lineL N) 0 (-1) 1 0) (lineL N).length) (keptC (movedL N (lineL N) 1 (-1) 1 0) (lineL N).length) (cusN (cosP N) (cosP N).length).2 = genSum (lineL (N : Int)).length (keptC (movedL N (lineL N) 0 (-1) 1 0) (lineL N).length) (keptC (movedL N (lineL N) 1 (-1) 1 0) (lineL N).length) (cusN (cosP N) (cosP N).length).2 := by
    unfold genV
    unfold genSum at f2 f3 ⊢
    rw [Int.tdiv_eq_ediv_of_nonneg f2]
    omega
  have hc0 := hc.c0
  generalize hG : genV (lineL (N : Int)).length (keptC (movedL N (lineL N) 0 (-1) 1 0) (lineL N).length) (keptC (movedL N (lineL N) 1 (-1) 1 0) (lineL N).length) (cusN (cosP N) (cosP N).length).2 = G at *
  unfold genSum at f2 f3 hV
  refine ⟨?_, ?_, by rw [e3], by rw [e4], by rw [e4]; show 0 ≤ G; omega, ?_, by rw [e3]; simp only; omega, by rw [e3]; simp only; omega, hlen, by rw [e4]; show G ≤ 1000000; omega⟩
  · unfold cuspRes
    rw [if_pos (inB_iff.2 ⟨n0, by omega⟩), e1]
    simp only [Int.toNat_natCast]
    rw [e2, f1]
  · unfold idxRes
    rw [if_pos (by simp only [Bool.and_eq_true, inB_iff]; omega)]
    have e : idxV 0 (Int.toNat (N : Int)) = (lineL (N : Int)).length := by
      rw [Int.toNat_natCast, line_index (by omega) (by omega)]; rfl
    rw [e]
  · rw [e4, e3, e1]
    simp only
    rw [e2]
    omega
/-! ### Fractions moved -/
theorem cusp_moved {N : Nat} {p q r s r' s' σ : Int} (n0 : 0 < N) (n1 : N ≤ 60) (hσ : σ = 1 ∨ σ = -1) (h : p * s - q * r = 1) (h' : σ * p * s' - σ * (N * p + q) * r' = 1) : cuspV N (σ * (N * p + q)) s' = cuspV N q s := by
  have hs2 : σ * σ = 1 := by rcases hσ with rfl | rfl <;> rfl
  have h2 : σ * p * (σ * (N * r + s)) - σ * (N * p + q) * (σ * r) = 1 := by
    have e : σ * p * (σ * (N * r + s)) - σ * (N * p + q) * (σ * r) = σ * σ * (p * s - q * r) := by grind
    rw [e, hs2, h]; rfl
  unfold cuspV
  rw [cusp_same n0 n1 h' h2]
  rw [coset_unit n0 n1 (u := σ) (by rcases hσ with rfl | rfl <;> simp), coset_mod (c' := q) (d' := s) ⟨p, by omega⟩ ⟨r, by omega⟩]
theorem coSign_pm (p q : Int) : coSign p q = 1 ∨ coSign p q = -1 := by
  unfold coSign; split <;> simp
theorem coRes_err (p q : Int) : (coRes p q).2 = 0 ∨ (coRes p q).2 = 3 := by
  unfold coRes; split <;> simp
theorem coRes_frac {p q : Int} (hg : (Int.gcd p q : Int) = 1) (h : (coRes p q).2 = 0) : (coRes p q).1 = (coSign p q * p, coSign p q * q) ∧ isFrac (coSign p q * p) (coSign p q * q) = true := by
  unfold coRes at h ⊢
  split at h
  · rename_i he
    rw [if_pos he]
    refine ⟨rfl, ?_⟩
    simp only [Bool.and_eq_true, entB_iff] at he
    rw [isFrac_iff]
    have hgs : (Int.gcd (coSign p q * p) (coSign p q * q) : Int) = 1 := by
      rcases coSign_pm p q with e | e <;> rw [e]
      · simpa using hg
      · simpa using hg
    refine ⟨he.1, ⟨?_, he.2.2⟩, hgs, ?_⟩
    · unfold coSign; split <;> omega
    · by_cases hq : q = 0
      · subst hq
        have hp : p = 1 ∨ p = -1 := by
          have : (p.natAbs : Int) = 1 := by simpa using hg
          omega
        rcases hp with rfl | rfl
        · right; decide
        · right; decide
      · left
        unfold coSign; split <;> omega
  · simp at h
theorem gcd_det {p q r s : Int} (h : p * s - q * r = 1) : (Int.gcd p q : Int) = 1 := by
  have h1 : (Int.gcd p q : Int) ∣ p * s - q * r := Int.dvd_sub (Int.dvd_trans (Int.gcd_dvd_left ..) (Int.dvd_mul_right _ _)) (Int.dvd_trans (Int.gcd_dvd_right ..) (Int.dvd_mul_right _ _))
  rw [h] at h1
  have := Int.le_of_dvd (by omega) h1
  have h3 : (Int.gcd p q : Int) ≠ 0 := fun e => by rw [e] at h1; omega
  omega
structure MovedUse (n V a b c d P Q : Int) : Prop where
  mat : isMat a b c d = true
  cop : (Int.gcd (a * P + b * Q) (c * P + d * Q) : Int) = 1
  same : (coRes (a * P + b * Q) (c * P + d * Q)).2 = 0 → ∀ W, Calls Try.prog 6 #[(.int .i64 n), (.agg #[.int .i64 ((coRes (a * P + b * Q) (c * P + d * Q)).1.1), .int .i64 ((coRes (a * P + b * Q) (c * P + d * Q)).1.2)])] W fun e w' => e = .returned (.tuple #[(.int .i64 V), (.int .i64 0)]) ∧ Below W.heap.size W w'
theorem moved_use {n P Q r s : Int} (hn : inB n 1 60 = true) (h : P * s - Q * r = 1) : MovedUse n (cuspV n Q s) 1 0 n 1 P Q := by
  obtain ⟨n0, n1⟩ := inB_iff.1 hn
  obtain ⟨N, rfl⟩ := Int.eq_ofNat_of_zero_le (show 0 ≤ n by omega)
  have e1 : (1 : Int) * P + 0 * Q = P := by omega
  have e2 : (N : Int) * P + 1 * Q = N * P + Q := by omega
  have hg : (Int.gcd P ((N : Int) * P + Q) : Int) = 1 := gcd_det (r := r) (s := N * r + s) (by
    have : P * (N * r + s) - (N * P + Q) * r = P * s - Q * r := by grind
    omega)
  refine ⟨?_, by rw [e1, e2]; exact hg, ?_⟩
  · have : entB (N : Int) = true := entB_iff.2 (by omega)
    simp [isMat, this]
    decide
  · rw [e1, e2]
    intro h0 W
    obtain ⟨e3, hf⟩ := coRes_frac hg h0
    rw [e3]
    simp only
    refine (CuspOfFraction_any _ _ _ W).mono ?_
    rintro e w' ⟨he, hb⟩
    rw [if_pos hf, if_pos hn] at he
    obtain ⟨r', s', hd, rfl⟩ := he
    rw [cusp_moved (by omega) (by omega) (coSign_pm _ _) h hd]
    exact ⟨rfl, hb⟩
theorem shifted_use {n P Q r s : Int} (hn : inB n 1 60 = true) (hf : isFrac P Q = true) (h : P * s - Q * r = 1) : MovedUse n (cuspV n Q s) 1 1 0 1 P Q := by
  obtain ⟨n0, n1⟩ := inB_iff.1 hn
  obtain ⟨N, rfl⟩ := Int.eq_ofNat_of_zero_le (show 0 ≤ n by omega)
  have e1 : (1 : Int) * P + 1 * Q = P + Q := by omega
  have e2 : (0 : Int) * P + 1 * Q = Q := by omega
  have hg : (Int.gcd (P + Q) Q : Int) = 1 := gcd_det (r := r + s) (s := s) (by
    have : (P + Q) * s - Q * (r + s) = P * s - Q * r := by grind
    omega)
  obtain ⟨-, hq, -, hq2⟩ := isFrac_iff.1 hf
  have hs : coSign (P + Q) Q = 1 := by unfold coSign; rw [if_neg (by omega)]
  refine ⟨by decide, by rw [e1, e2]; exact hg, ?_⟩
  rw [e1, e2]
  intro h0 W
  obtain ⟨e3, hf⟩ := coRes_frac hg h0
  rw [e3]
  rw [hs, Int.one_mul, Int.one_mul] at hf ⊢
  simp only
  refine (CuspOfFraction_any _ _ _ W).mono ?_
  rintro e w' ⟨he, hb⟩
  rw [if_pos hf, if_pos hn] at he
  obtain ⟨r', s', hd, rfl⟩ := he
  have h2 : (P + Q) * s - Q * (r + s) = 1 := by
    have : (P + Q) * s - Q * (r + s) = P * s - Q * r := by grind
    omega
  have e4 : cuspV N Q s' = cuspV N Q s := by
    unfold cuspV
    exact cusp_same (by omega) (by omega) hd h2
  rw [e4]
  exact ⟨rfl, hb⟩
/-- The cusp of a fraction: one value for both texts. -/
structure CofOk (n P Q V c : Int) : Prop where
  impl : ∀ W, Calls Try.prog 6 #[(.int .i64 n), (.agg #[.int .i64 P, .int .i64 Q])] W fun e w' => e = .returned (.tuple #[(.int .i64 V), (.int .i64 c)]) ∧ Below W.heap.size W w'
  spec : ∀ W, Calls Try.prog 7 #[(.int .i64 n), (.agg #[.int .i64 P, .int .i64 Q])] W fun e w' => e = .returned (.tuple #[(.int .i64 V), (.int .i64 c)]) ∧ Below W.heap.size W w'
  yes : c = 0 → isFrac P Q = true ∧ MovedUse n V 1 0 n 1 P Q ∧ MovedUse n V 1 1 0 1 P Q
  no : c ≠ 0 → V = 0
theorem cof_ok (n P Q : Int) : ∃ V c, CofOk n P Q V c := by
  by_cases hf : isFrac P Q = true
  · by_cases hn : inB n 1 60 = true
    · obtain ⟨-, -, hg, -⟩ := isFrac_iff.1 hf
      obtain ⟨r, s, h⟩ := bez_done_any hg
      have hsame : ∀ r' s', P * s' - Q * r' = 1 → cuspV n Q s' = cuspV n Q s := by
        intro r' s' h'
        obtain ⟨n0, n1⟩ := inB_iff.1 hn
        obtain ⟨N, rfl⟩ := Int.eq_ofNat_of_zero_le (show 0 ≤ n by omega)
        exact cusp_same (by omega) (by omega) h' h
      refine ⟨cuspV n Q s, 0, ?_, ?_, fun _ => ⟨hf, moved_use hn h, shifted_use hn hf h⟩, fun h => absurd rfl h⟩
      · intro W
        refine (CuspOfFraction_any n P Q W).mono ?_
        rintro e w' ⟨he, hb⟩
        rw [if_pos hf, if_pos hn] at he
        obtain ⟨r', s', hd, rfl⟩ := he
        rw [hsame r' s' hd]; exact ⟨rfl, hb⟩
      · intro W
        refine (sCuspOfFraction_any n P Q W).mono ?_
        rintro e w' ⟨he, hb⟩
        rw [if_pos hf, if_pos hn] at he
        obtain ⟨r', s', hd, rfl⟩ := he
        rw [hsame r' s' hd]; exact ⟨rfl, hb⟩
    · refine ⟨0, 2, ?_, ?_, fun h => absurd h (by decide), fun _ => rfl⟩
      · intro W
        refine (CuspOfFraction_any n P Q W).mono ?_
        rintro e w' ⟨he, hb⟩
        rw [if_pos hf, if_neg hn] at he
        exact ⟨he, hb⟩
      · intro W
        refine (sCuspOfFraction_any n P Q W).mono ?_
        rintro e w' ⟨he, hb⟩
        rw [if_pos hf, if_neg hn] at he
        exact ⟨he, hb⟩
  · refine ⟨0, 1, ?_, ?_, fun h => absurd h (by decide), fun _ => rfl⟩
    · intro W
      refine (CuspOfFraction_any n P Q W).mono ?_
      rintro e w' ⟨he, hb⟩
      rw [if_neg hf] at he
      exact ⟨he, hb⟩
    · intro W
      refine (sCuspOfFraction_any n P Q W).mono ?_
      rintro e w' ⟨he, hb⟩
      rw [if_neg hf] at he
      exact ⟨he, hb⟩
end Go.Proofs.Ytjkemnnkgihefaa
