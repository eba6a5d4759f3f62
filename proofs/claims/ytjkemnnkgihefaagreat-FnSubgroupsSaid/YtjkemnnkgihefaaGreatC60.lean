/- Contracts: normal pairs; the law NormalPair. -/
import Derived.Test.YtjkemnnkgihefaaGreatC9
import Derived.Test.YtjkemnnkgihefaaGreatC3
import Derived.Test.YtjkemnnkgihefaaGreatPA
import Derived.Test.YtjkemnnkgihefaaGreatR1
namespace Go.Proofs.YtjkemnnkgihefaaGreat
open Go.RowKit
/-- What a pair is compared by. -/
def cmpP (a b x y : Int) : Int := if a < x then -1 else if x < a then 1 else if b < y then -1 else if y < b then 1 else 0
theorem cmpP_lt {a b x y : Int} : cmpP a b x y < 0 ↔ lexB a b x y = true := by
  rw [lexB_iff]; unfold cmpP
  split
  · simp; omega
  · split
    · simp; omega
    · split
      · simp; omega
      · split <;> simp <;> omega
set_option maxHeartbeats 1000000 in
theorem isNaN_any (x : Int) (w : World) : Calls Tryz.prog 83 #[(.int .i64 x)] w fun e w' => e = .returned (.bool false) ∧ w = w' := by
  have h : (x != x) = false := by simp
  go_enter Tryz.func83, Tryz.ntmps83
  go_wp2_with fail
  go_ret
  exact ⟨rfl, rfl⟩
set_option maxHeartbeats 1000000 in
theorem cmpCompare_any (x y : Int) (w : World) : Calls Tryz.prog 79 #[(.int .i64 x), (.int .i64 y)] w fun e w' => e = .returned (.int .i64 (if x < y then -1 else if y < x then 1 else 0)) ∧ w = w' := by
  by_cases h1 : x < y
  · rw [if_pos h1]
    go_enter Tryz.func79, Tryz.ntmps79
    go_wp2_with (go_at_call 83; refine (isNaN_any _ _).mono ?_; rintro e w' ⟨rfl, rfl⟩)
    go_ret
    exact ⟨rfl, rfl⟩
  · rw [if_neg h1]
    by_cases h2 : y < x
    · rw [if_pos h2]
      go_enter Tryz.func79, Tryz.ntmps79
      go_wp2_with (go_at_call 83; refine (isNaN_any _ _).mono ?_; rintro e w' ⟨rfl, rfl⟩)
      go_ret
      exact ⟨rfl, rfl⟩
    · rw [if_neg h2]
      go_enter Tryz.func79, Tryz.ntmps79
      go_wp2_with (go_at_call 83; refine (isNaN_any _ _).mono ?_; rintro e w' ⟨rfl, rfl⟩)
      go_ret
      exact ⟨rfl, rfl⟩
set_option maxHeartbeats 1000000 in
theorem compare2_any (b b' cap cap' : Nat) (x y x' y' : Int) (w : World) (h0 : w.cell? ⟨b, 0, none⟩ = some (.int .i64 x)) (h1 : w.cell? ⟨b, 1, none⟩ = some (.int .i64 y)) (h2 : w.cell? ⟨b', 0, none⟩ = some (.int .i64 x')) (h3 : w.cell? ⟨b', 1, none⟩ = some (.int .i64 y')) :
    Calls Tryz.prog 68 #[.slice (some ⟨b, 0, none⟩) 2 cap, .slice (some ⟨b', 0, none⟩) 2 cap'] w fun e w' => e = .returned (.int .i64 (cmpP x y x' y')) ∧ w = w' := by
  have HA := Lib.hid (fun W => cmpCompare_any x x' W)
  have HB := Lib.hid (fun W => cmpCompare_any y y' W)
  rcases (show x < x' ∨ x' < x ∨ x = x' by omega) with h | h | h
  · rw [if_pos h] at HA
    have E : cmpP x y x' y' = -1 := by unfold cmpP; rw [if_pos h]
    rw [E]
    clear E h
    go_enter Tryz.func68, Tryz.ntmps68
    go_wp2_with fail
    refine wp_loop_rounds 1 ?_
    rw [rounds_succ]
    go_wp2_with fail
    refine (HA.out _).mono ?_; rintro e w' ⟨rfl, rfl⟩
    go_wp2_with fail
    go_ret
    exact ⟨rfl, rfl⟩
  · rw [if_neg (by omega), if_pos h] at HA
    have E : cmpP x y x' y' = 1 := by unfold cmpP; rw [if_neg (by omega), if_pos h]
    rw [E]
    clear E h
    go_enter Tryz.func68, Tryz.ntmps68
    go_wp2_with fail
    refine wp_loop_rounds 1 ?_
    rw [rounds_succ]
    go_wp2_with fail
    refine (HA.out _).mono ?_; rintro e w' ⟨rfl, rfl⟩
    go_wp2_with fail
    go_ret
    exact ⟨rfl, rfl⟩
  · rw [if_neg (by omega), if_neg (by omega)] at HA
    rcases (show y < y' ∨ y' < y ∨ y = y' by omega) with g | g | g
    · rw [if_pos g] at HB
      have E : cmpP x y x' y' = -1 := by unfold cmpP; rw [if_neg (by omega), if_neg (by omega), if_pos g]
      rw [E]
      clear E h g
      go_enter Tryz.func68, Tryz.ntmps68
      go_wp2_with fail
      refine wp_loop_rounds 2 ?_
      rw [rounds_succ]
      go_wp2_with fail
      refine (HA.out _).mono ?_; rintro e w' ⟨rfl, rfl⟩
      go_wp2_with fail
      rw [rounds_succ]
      go_wp2_with fail
      refine (HB.out _).mono ?_; rintro e w' ⟨rfl, rfl⟩
      go_wp2_with fail
      go_ret
      exact ⟨rfl, rfl⟩
    · rw [if_neg (by omega), if_pos g] at HB
      have E : cmpP x y x' y' = 1 := by unfold cmpP; rw [if_neg (by omega), if_neg (by omega), if_neg (by omega), if_pos g]
      rw [E]
      clear E h g
      go_enter Tryz.func68, Tryz.ntmps68
      go_wp2_with fail
      refine wp_loop_rounds 2 ?_
      rw [rounds_succ]
      go_wp2_with fail
      refine (HA.out _).mono ?_; rintro e w' ⟨rfl, rfl⟩
      go_wp2_with fail
      rw [rounds_succ]
      go_wp2_with fail
      refine (HB.out _).mono ?_; rintro e w' ⟨rfl, rfl⟩
      go_wp2_with fail
      go_ret
      exact ⟨rfl, rfl⟩
    · rw [if_neg (by omega), if_neg (by omega)] at HB
      have E : cmpP x y x' y' = 0 := by unfold cmpP; rw [if_neg (by omega), if_neg (by omega), if_neg (by omega), if_neg (by omega)]
      rw [E]
      clear E h g
      go_enter Tryz.func68, Tryz.ntmps68
      go_wp2_with fail
      refine wp_loop_rounds 3 ?_
      rw [rounds_succ]
      go_wp2_with fail
      refine (HA.out _).mono ?_; rintro e w' ⟨rfl, rfl⟩
      go_wp2_with fail
      rw [rounds_succ]
      go_wp2_with fail
      refine (HB.out _).mono ?_; rintro e w' ⟨rfl, rfl⟩
      go_wp2_with fail
      rw [rounds_succ]
      go_wp2_with fail
      go_ret
      exact ⟨rfl, rfl⟩
set_option maxHeartbeats 1000000 in
theorem isPair_any (n c d : Int) (w : World) (n0 : 0 ≤ n) (n1 : n ≤ 1000000) (c0 : 0 ≤ c) (c1 : c ≤ 1000000) (d0 : 0 ≤ d) (d1 : d ≤ 1000000) :
    Calls Tryz.prog 48 #[(.int .i64 n), (.agg #[.int .i64 c, .int .i64 d])] w fun e w' => e = .returned (.bool (isPairB n c d)) ∧ Below w.heap.size w w' := by
  have H1 := Lib.hid (fun W => divisor_any c d W (by omega) (by omega) (by omega) (by omega))
  have hg : (Int.gcd c d : Int) ≤ 1000000 := by
    by_cases h : c = 0
    · subst h; rw [Int.gcd_zero_left]; omega
    · have := Int.le_of_dvd (show 0 < c by omega) (Int.gcd_dvd_left c d); omega
  have H2 := Lib.hid (fun W => divisor_any (Int.gcd c d : Int) n W (by omega) (by omega) (by omega) (by omega))
  unfold isPairB
  generalize (Int.gcd (Int.gcd c d : Int) n : Int) = h at *
  generalize (Int.gcd c d : Int) = g at *
  clear hg
  go_enter Tryz.func48, Tryz.ntmps48
  go_wp2_with fail
  refine (H1.out _).mono ?_; rintro e w1 ⟨rfl, hb1⟩
  obtain ⟨hc1, hf1⟩ := bcell hb1
  go_wp2_with fail
  refine (H2.out _).mono ?_; rintro e w2 ⟨rfl, hb2⟩
  replace hb2 := bstep hb1 hb2
  clear hc1 hf1 hb1
  obtain ⟨hc2, hf2⟩ := bcell hb2
  have hB2 : Below w.heap.size w w2 := bfin (by go_grown) hb2
  go_wp2_with fail
  go_ret
  exact ⟨rfl, by go_grown⟩
structure MulMod (k c n : Int) : Prop where
  w : IntKind.i64.wrap (k * c) = k * c
  t : (k * c).tmod n = k * c % n
  lo : 0 ≤ k * c % n
  hi : k * c % n < n
theorem mulMod {k c n : Int} (k0 : 0 ≤ k) (k1 : k ≤ 1000) (c0 : 0 ≤ c) (c1 : c ≤ 1000) (n0 : 0 < n) : MulMod k c n := by
  have h := Int.mul_nonneg k0 c0
  have h2 := Int.mul_le_mul k1 c1 c0 (by omega)
  exact ⟨IntWalk.i64_in _ (by omega), Int.tmod_eq_emod_of_nonneg h, Int.emod_nonneg _ (by omega), Int.emod_lt_of_pos _ n0⟩
theorem ret_nrm {a b x y : Int} (h1 : x = a) (h2 : y = b) : Ending.returned (.tuple #[(.int .i64 a), (.int .i64 b), .bool true]) = .returned (.tuple #[(.int .i64 x), (.int .i64 y), .bool true]) := by rw [h1, h2]
def nrmV (n c d : Int) : Value := if isPairB n c d = true then .tuple #[(.int .i64 ((normal n c d).x)), (.int .i64 ((normal n c d).y)), .bool true] else .tuple #[(.int .i64 0), (.int .i64 0), .bool false]
set_option maxRecDepth 100000 in
set_option maxHeartbeats 2000000 in
theorem l06Normal_any (N : Nat) (c d : Int) (w : World) (n0 : 0 < N) (n1 : N ≤ 1000) (hc : 0 ≤ c ∧ c < N) (hd : 0 ≤ d ∧ d < N) :
    Calls Tryz.prog 51 #[(.int .i64 ((N : Int))), (.int .i64 c), (.int .i64 d)] w fun e w' => e = .returned (nrmV N c d) ∧ Below w.heap.size w w' := by
  have HB := Lib.hid (fun k => nrm_bd (n := (N : Int)) (by omega) hc hd k)
  obtain ⟨c0, c1⟩ := hc
  obtain ⟨d0, d1⟩ := hd
  have H1 := Lib.hid (fun W => l01Gcd_any c d W (by omega) (by omega) (by omega) (by omega))
  have hg : (Int.gcd c d : Int) ≤ 1000000 := by
    by_cases h : c = 0
    · subst h; rw [Int.gcd_zero_left]; omega
    · have := Int.le_of_dvd (show 0 < c by omega) (Int.gcd_dvd_left c d); omega
  have H2 := Lib.hid (fun W => l01Gcd_any (Int.gcd c d : Int) N W (by omega) (by omega) (by omega) (by omega))
  clear hg
  by_cases hp : isPairB (N : Int) c d = true
  · have E := Lib.hid (show nrmV N c d = .tuple #[(.int .i64 ((nrm N c d (N - 1)).x)), (.int .i64 ((nrm N c d (N - 1)).y)), .bool true] by
      unfold nrmV normal; rw [if_pos hp, show ((N : Int) - 1).toNat = N - 1 by omega])
    rw [E.out]
    have hp2 : (Int.gcd (Int.gcd c d : Int) N : Int) = 1 := by simpa [isPairB] using hp
    rw [hp2] at H2
    clear E hp hp2
    generalize (Int.gcd c d : Int) = g at *
    go_enter Tryz.func51, Tryz.ntmps51
    go_wp2_with fail
    refine (H1.out _).mono ?_; rintro e w1 ⟨rfl, hb1⟩
    obtain ⟨hc1, hf1⟩ := bcell hb1
    go_wp2_with fail
    refine (H2.out _).mono ?_; rintro e w2 ⟨rfl, hb2⟩
    replace hb2 := bstep hb1 hb2
    clear hc1 hf1 hb1
    obtain ⟨hc2, hf2⟩ := bcell hb2
    go_wp2_with fail
    go_loopw [9, 10, 11] (fun x y u wr => ∃ k : Nat, ∃ a b : Int, x = (.int .i64 a) ∧ y = (.int .i64 b) ∧ u = (.int .i64 ((k : Int) + 1)) ∧ k + 1 ≤ N ∧ Hid ((nrm N c d k).x = a ∧ (nrm N c d k).y = b) ∧ Below w.heap.size w wr) (fun _ _ u _ => N - (intOf u).toNat)
    case atStart => exact ⟨0, c, d, rfl, rfl, by go_num, by omega, Lib.hid ⟨rfl, rfl⟩, bfin (by go_grown) hb2⟩
    case round =>
      obtain ⟨k, a, b, rfl, rfl, rfl, hk, HN, hb⟩ := hrel
      by_cases hlt : k + 1 < N
      · have HG := Lib.hid (fun W => l01Gcd_any ((k : Int) + 1) N W (by omega) (by omega) (by omega) (by omega))
        have hnn : (N : Int) ≠ 0 := by omega
        by_cases hg : (Int.gcd ((k : Int) + 1) N : Int) = 1
        · have HG1 := HG.out
          rw [hg] at HG1
          have HG := Lib.hid HG1
          clear HG1
          obtain ⟨mw1, mt1, ml1, mh1⟩ := mulMod (k := (k : Int) + 1) (c := c) (n := (N : Int)) (by omega) (by omega) c0 (by omega) (by omega)
          obtain ⟨mw2, mt2, ml2, mh2⟩ := mulMod (k := (k : Int) + 1) (c := d) (n := (N : Int)) (by omega) (by omega) d0 (by omega) (by omega)
          have HY := Lib.hid (@nrm_yes N c d k hg)
          have HNo := Lib.hid (@nrm_no N c d k)
          rw [HN.out.1, HN.out.2] at HY HNo
          clear hg
          generalize ((k : Int) + 1) * c % (N : Int) = A at *
          generalize ((k : Int) + 1) * d % (N : Int) = B at *
          rcases (show A < a ∨ (¬ A < a ∧ A = a ∧ B < b) ∨ (¬ A < a ∧ ¬ (A = a ∧ B < b)) by omega) with h1 | ⟨h1, h2, h3⟩ | ⟨h1, h2⟩
          · have HV := Lib.hid (HY.out (lexB_iff.2 (.inl h1)))
            go_wp2_with fail
            refine (HG.out _).mono ?_; rintro e w3 ⟨rfl, hb3⟩
            go_wp2_with fail
            go_quiet (fail)
            go_wp2_with fail
            go_roundw
            case rel => exact ⟨k + 1, A, B, rfl, rfl, by go_num, by omega, Lib.hid ⟨by rw [HV.out], by rw [HV.out]⟩, below_drewN (hb.trans (hb3.mono hb.size)) _⟩
            case measure => simp [intOf]; omega
          · have HV := Lib.hid (HY.out (lexB_iff.2 (.inr ⟨h2, h3⟩)))
            subst h2
            have h4 : (A == A) = true := by simp
            go_wp2_with fail
            refine (HG.out _).mono ?_; rintro e w3 ⟨rfl, hb3⟩
            go_wp2_with fail
            go_quiet (fail)
            go_wp2_with fail
            go_roundw
            case rel => exact ⟨k + 1, A, B, rfl, rfl, by go_num, by omega, Lib.hid ⟨by rw [HV.out], by rw [HV.out]⟩, below_drewN (hb.trans (hb3.mono hb.size)) _⟩
            case measure => simp [intOf]; omega
          · have HV := Lib.hid (HNo.out (lexB_no.2 (by omega)))
            by_cases h3 : A = a
            · subst h3
              have h4 : (A == A) = true := by simp
              have h5 : ¬ B < b := fun h => h2 ⟨rfl, h⟩
              clear h2
              go_wp2_with fail
              refine (HG.out _).mono ?_; rintro e w3 ⟨rfl, hb3⟩
              go_wp2_with fail
              go_quiet (fail)
              go_wp2_with fail
              go_roundw
              case rel => exact ⟨k + 1, A, b, rfl, rfl, by go_num, by omega, Lib.hid ⟨by rw [HV.out]; exact HN.out.1, by rw [HV.out]; exact HN.out.2⟩, below_drewN (hb.trans (hb3.mono hb.size)) _⟩
              case measure => simp [intOf]; omega
            · have h4 : (A == a) = false := by simp [h3]
              clear h2 h3
              go_wp2_with fail
              refine (HG.out _).mono ?_; rintro e w3 ⟨rfl, hb3⟩
              go_wp2_with fail
              go_quiet (fail)
              go_wp2_with fail
              go_roundw
              case rel => exact ⟨k + 1, a, b, rfl, rfl, by go_num, by omega, Lib.hid ⟨by rw [HV.out]; exact HN.out.1, by rw [HV.out]; exact HN.out.2⟩, below_drewN (hb.trans (hb3.mono hb.size)) _⟩
              case measure => simp [intOf]; omega
        · have HV := Lib.hid (@nrm_skip N c d k hg)
          have hg2 : ((Int.gcd ((k : Int) + 1) N : Int) != 1) = true := by simpa using hg
          clear hg
          generalize (Int.gcd ((k : Int) + 1) N : Int) = g2 at *
          go_wp2_with fail
          refine (HG.out _).mono ?_; rintro e w3 ⟨rfl, hb3⟩
          go_wp2_with fail
          go_roundw
          case rel => exact ⟨k + 1, a, b, rfl, rfl, by go_num, by omega, Lib.hid ⟨by rw [HV.out]; exact HN.out.1, by rw [HV.out]; exact HN.out.2⟩, hb.trans (hb3.mono hb.size)⟩
          case measure => simp [intOf]; omega
      · have HE := Lib.hid (show N - 1 = k by omega)
        have HF : Hid ((nrm N c d (N - 1)).x = a ∧ (nrm N c d (N - 1)).y = b) := by rw [HE.out]; exact HN
        go_wp2_with fail
        go_ret3
        exact ⟨ret_nrm HF.out.1 HF.out.2, hb⟩
  · have E := Lib.hid (show nrmV N c d = .tuple #[(.int .i64 0), (.int .i64 0), .bool false] by unfold nrmV; rw [if_neg hp])
    rw [E.out]
    have hp2 : ((Int.gcd (Int.gcd c d : Int) N : Int) != 1) = true := by simpa [isPairB] using hp
    clear E hp
    generalize (Int.gcd (Int.gcd c d : Int) N : Int) = g3 at *
    generalize (Int.gcd c d : Int) = g at *
    go_enter Tryz.func51, Tryz.ntmps51
    go_wp2_with fail
    refine (H1.out _).mono ?_; rintro e w1 ⟨rfl, hb1⟩
    obtain ⟨hc1, hf1⟩ := bcell hb1
    go_wp2_with fail
    refine (H2.out _).mono ?_; rintro e w2 ⟨rfl, hb2⟩
    replace hb2 := bstep hb1 hb2
    clear hc1 hf1 hb1
    obtain ⟨hc2, hf2⟩ := bcell hb2
    have hB2 : Below w.heap.size w w2 := bfin (by go_grown) hb2
    go_wp2_with fail
    go_ret3
    exact ⟨rfl, by go_grown⟩
end Go.Proofs.YtjkemnnkgihefaaGreat
