/- Contracts: normal pairs; the law NormalPair. -/
import Derived.Test.YtjkemnnkgihefaaCa
import Derived.Test.YtjkemnnkgihefaaPlain
import Derived.Test.YtjkemnnkgihefaaR1
import Derived.Test.YtjkemnnkgihefaaR3
import Derived.Deep.RegionHeld3
namespace Go.Proofs.Ytjkemnnkgihefaa
open Go.RowKit
/-- What a pair is compared by. -/
def cmpP (a b x y : Int) : Int := if a < x then -1 else if x < a then 1 else if b < y then -1 else if y < b then 1 else 0
theorem cmpP_lt {a b x y : Int} : cmpP a b x y < 0 ↔ lexB a b x y = true := by
  rw [lexB_iff]; unfold cmpP
  split
  · simp; omega
  · split
    · simp; omega
    · split
      · simp; omega
      · split <;> simp <;> omega
set_option maxHeartbeats 1000000 in
theorem isNaN_any (x : Int) (w : World) : Calls Try.prog 73 #[(.int .i64 x)] w fun e w' => e = .returned (.bool false) ∧ w = w' := by
  have h : (x != x) = false := by simp
  go_enter Try.func73, Try.ntmps73
  go_wp2_with fail
  go_ret
  exact ⟨rfl, rfl⟩
set_option maxHeartbeats 1000000 in
theorem cmpCompare_any (x y : Int) (w : World) : Calls Try.prog 70 #[(.int .i64 x), (.int .i64 y)] w fun e w' => e = .returned (.int .i64 (if x < y then -1 else if y < x then 1 else 0)) ∧ w = w' := by
  by_cases h1 : x < y
  · rw [if_pos h1]
    go_enter Try.func70, Try.ntmps70
    go_wp2_with (go_at_call 73; refine (isNaN_any _ _).mono ?_; rintro e w' ⟨rfl, rfl⟩)
    go_ret
    exact ⟨rfl, rfl⟩
  · rw [if_neg h1]
    by_cases h2 : y < x
    · rw [if_pos h2]
      go_enter Try.func70, Try.ntmps70
      go_wp2_with (go_at_call 73; refine (isNaN_any _ _).mono ?_; rintro e w' ⟨rfl, rfl⟩)
      go_ret
      exact ⟨rfl, rfl⟩
    · rw [if_neg h2]
      go_enter Try.func70, Try.ntmps70
      go_wp2_with (go_at_call 73; refine (isNaN_any _ _).mono ?_; rintro e w' ⟨rfl, rfl⟩)
      go_ret
      exact ⟨rfl, rfl⟩
set_option maxHeartbeats 1000000 in
theorem compare2_any (b b' cap cap' : Nat) (x y x' y' : Int) (w : World) (h0 : w.cell? ⟨b, 0, none⟩ = some (.int .i64 x)) (h1 : w.cell? ⟨b, 1, none⟩ = some (.int .i64 y)) (h2 : w.cell? ⟨b', 0, none⟩ = some (.int .i64 x')) (h3 : w.cell? ⟨b', 1, none⟩ = some (.int .i64 y')) :
    Calls Try.prog 68 #[.slice (some ⟨b, 0, none⟩) 2 cap, .slice (some ⟨b', 0, none⟩) 2 cap'] w fun e w' => e = .returned (.int .i64 (cmpP x y x' y')) ∧ w = w' := by
  have HA := Lib.hid (fun W => cmpCompare_any x x' W)
  have HB := Lib.hid (fun W => cmpCompare_any y y' W)
  rcases (show x < x' ∨ x' < x ∨ x = x' by omega) with h | h | h
  · rw [if_pos h] at HA
    have E : cmpP x y x' y' = -1 := by unfold cmpP; rw [if_pos h]
    rw [E]
    clear E h
    go_enter Try.func68, Try.ntmps68
    go_wp2_with fail
    refine wp_loop_rounds 1 ?_
    rw [rounds_succ]
    go_wp2_with fail
    refine (HA.out _).mono ?_; rintro e w' ⟨rfl, rfl⟩
    go_wp2_with fail
    go_ret
    exact ⟨rfl, rfl⟩
  · rw [if_neg (by omega), if_pos h] at HA
    have E : cmpP x y x' y' = 1 := by unfold cmpP; rw [if_neg (by omega), if_pos h]
    rw [E]
    clear E h
    go_enter Try.func68, Try.ntmps68
    go_wp2_with fail
    refine wp_loop_rounds 1 ?_
    rw [rounds_succ]
    go_wp2_with fail
    refine (HA.out _).mono ?_; rintro e w' ⟨rfl, rfl⟩
    go_wp2_with fail
    go_ret
    exact ⟨rfl, rfl⟩
  · rw [if_neg (by omega), if_neg (by omega)] at HA
    rcases (show y < y' ∨ y' < y ∨ y = y' by omega) with g | g | g
    · rw [if_pos g] at HB
      have E : cmpP x y x' y' = -1 := by unfold cmpP; rw [if_neg (by omega), if_neg (by omega), if_pos g]
      rw [E]
      clear E h g
      go_enter Try.func68, Try.ntmps68
      go_wp2_with fail
      refine wp_loop_rounds 2 ?_
      rw [rounds_succ]
      go_wp2_with fail
      refine (HA.out _).mono ?_; rintro e w' ⟨rfl, rfl⟩
      go_wp2_with fail
      rw [rounds_succ]
      go_wp2_with fail
      refine (HB.out _).mono ?_; rintro e w' ⟨rfl, rfl⟩
      go_wp2_with fail
      go_ret
      exact ⟨rfl, rfl⟩
    · rw [if_neg (by omega), if_pos g] at HB
      have E : cmpP x y x' y' = 1 := by unfold cmpP; rw [if_neg (by omega), if_neg (by omega), if_neg (by omega), if_pos g]
      rw [E]
      clear E h g
      go_enter Try.func68, Try.ntmps68
      go_wp2_with fail
      refine wp_loop_rounds 2 ?_
      rw [rounds_succ]
      go_wp2_with fail
      refine (HA.out _).mono ?_; rintro e w' ⟨rfl, rfl⟩
      go_wp2_with fail
      rw [rounds_succ]
      go_wp2_with fail
      refine (HB.out _).mono ?_; rintro e w' ⟨rfl, rfl⟩
      go_wp2_with fail
      go_ret
      exact ⟨rfl, rfl⟩
    · rw [if_neg (by omega), if_neg (by omega)] at HB
      have E : cmpP x y x' y' = 0 := by unfold cmpP; rw [if_neg (by omega), if_neg (by omega), if_neg (by omega), if_neg (by omega)]
      rw [E]
      clear E h g
      go_enter Try.func68, Try.ntmps68
      go_wp2_with fail
      refine wp_loop_rounds 3 ?_
      rw [rounds_succ]
      go_wp2_with fail
      refine (HA.out _).mono ?_; rintro e w' ⟨rfl, rfl⟩
      go_wp2_with fail
      rw [rounds_succ]
      go_wp2_with fail
      refine (HB.out _).mono ?_; rintro e w' ⟨rfl, rfl⟩
      go_wp2_with fail
      rw [rounds_succ]
      go_wp2_with fail
      go_ret
      exact ⟨rfl, rfl⟩
set_option maxHeartbeats 1000000 in
theorem isPair_any (n c d : Int) (w : World) (n0 : 0 ≤ n) (n1 : n ≤ 1000000) (c0 : 0 ≤ c) (c1 : c ≤ 1000000) (d0 : 0 ≤ d) (d1 : d ≤ 1000000) :
    Calls Try.prog 59 #[(.int .i64 n), (.agg #[.int .i64 c, .int .i64 d])] w fun e w' => e = .returned (.bool (isPairB n c d)) ∧ Below w.heap.size w w' := by
  have H1 := Lib.hid (fun W => divisor_any c d W (by omega) (by omega) (by omega) (by omega))
  have hg : (Int.gcd c d : Int) ≤ 1000000 := by
    by_cases h : c = 0
    · subst h; rw [Int.gcd_zero_left]; omega
    · have := Int.le_of_dvd (show 0 < c by omega) (Int.gcd_dvd_left c d); omega
  have H2 := Lib.hid (fun W => divisor_any (Int.gcd c d : Int) n W (by omega) (by omega) (by omega) (by omega))
  unfold isPairB
  generalize (Int.gcd (Int.gcd c d : Int) n : Int) = h at *
  generalize (Int.gcd c d : Int) = g at *
  clear hg
  go_enter Try.func59, Try.ntmps59
  go_wp2_with fail
  refine (H1.out _).mono ?_; rintro e w1 ⟨rfl, hb1⟩
  obtain ⟨hc1, hf1⟩ := bcell hb1
  go_wp2_with fail
  refine (H2.out _).mono ?_; rintro e w2 ⟨rfl, hb2⟩
  replace hb2 := bstep hb1 hb2
  clear hc1 hf1 hb1
  obtain ⟨hc2, hf2⟩ := bcell hb2
  have hB2 : Below w.heap.size w w2 := bfin (by go_grown) hb2
  go_wp2_with fail
  go_ret
  exact ⟨rfl, by go_grown⟩
structure MulMod (k c n : Int) : Prop where
  w : IntKind.i64.wrap (k * c) = k * c
  t : (k * c).tmod n = k * c % n
  lo : 0 ≤ k * c % n
  hi : k * c % n < n
theorem mulMod {k c n : Int} (k0 : 0 ≤ k) (k1 : k ≤ 1000) (c0 : 0 ≤ c) (c1 : c ≤ 1000) (n0 : 0 < n) : MulMod k c n := by
  have h := Int.mul_nonneg k0 c0
  have h2 := Int.mul_le_mul k1 c1 c0 (by omega)
  exact ⟨IntWalk.i64_in _ (by omega), Int.tmod_eq_emod_of_nonneg h, Int.emod_nonneg _ (by omega), Int.emod_lt_of_pos _ n0⟩
theorem ret_nrm {a b x y : Int} (h1 : x = a) (h2 : y = b) : Ending.returned (.tuple #[(.int .i64 a), (.int .i64 b), .bool true]) = .returned (.tuple #[(.int .i64 x), (.int .i64 y), .bool true]) := by rw [h1, h2]
def nrmV (n c d : Int) : Value := if isPairB n c d = true then .tuple #[(.int .i64 ((normal n c d).x)), (.int .i64 ((normal n c d).y)), .bool true] else .tuple #[(.int .i64 0), (.int .i64 0), .bool false]
set_option maxRecDepth 100000 in
set_option maxHeartbeats 2000000 in
theorem l06Normal_any (N : Nat) (c d : Int) (w : World) (n0 : 0 < N) (n1 : N ≤ 1000) (hc : 0 ≤ c ∧ c < N) (hd : 0 ≤ d ∧ d < N) :
    Calls Try.prog 64 #[(.int .i64 ((N : Int))), (.int .i64 c), (.int .i64 d)] w fun e w' => e = .returned (nrmV N c d) ∧ Below w.heap.size w w' := by
  have HB := Lib.hid (fun k => nrm_bd (n := (N : Int)) (by omega) hc hd k)
  obtain ⟨c0, c1⟩ := hc
  obtain ⟨d0, d1⟩ := hd
  have H1 := Lib.hid (fun W => l01Gcd_any c d W (by omega) (by omega) (by omega) (by omega))
  have hg : (Int.gcd c d : Int) ≤ 1000000 := by
    by_cases h : c = 0
    · subst h; rw [Int.gcd_zero_left]; omega
    · have := Int.le_of_dvd (show 0 < c by omega) (Int.gcd_dvd_left c d); omega
  have H2 := Lib.hid (fun W => l01Gcd_any (Int.gcd c d : Int) N W (by omega) (by omega) (by omega) (by omega))
  clear hg
  by_cases hp : isPairB (N : Int) c d = true
  · have E := Lib.hid (show nrmV N c d = .tuple #[(.int .i64 ((nrm N c d (N - 1)).x)), (.int .i64 ((nrm N c d (N - 1)).y)), .bool true] by
      unfold nrmV normal; rw [if_pos hp, show ((N : Int) - 1).toNat = N - 1 by omega])
    rw [E.out]
    have hp2 : (Int.gcd (Int.gcd c d : Int) N : Int) = 1 := by simpa [isPairB] using hp
    rw [hp2] at H2
    clear E hp hp2
    generalize (Int.gcd c d : Int) = g at *
    go_enter Try.func64, Try.ntmps64
    go_wp2_with fail
    refine (H1.out _).mono ?_; rintro e w1 ⟨rfl, hb1⟩
    obtain ⟨hc1, hf1⟩ := bcell hb1
    go_wp2_with fail
    refine (H2.out _).mono ?_; rintro e w2 ⟨rfl, hb2⟩
    replace hb2 := bstep hb1 hb2
    clear hc1 hf1 hb1
    obtain ⟨hc2, hf2⟩ := bcell hb2
    go_wp2_with fail
    go_loopw [9, 10, 11] (fun x y u wr => ∃ k : Nat, ∃ a b : Int, x = (.int .i64 a) ∧ y = (.int .i64 b) ∧ u = (.int .i64 ((k : Int) + 1)) ∧ k + 1 ≤ N ∧ Hid ((nrm N c d k).x = a ∧ (nrm N c d k).y = b) ∧ Below w.heap.size w wr) (fun _ _ u _ => N - (intOf u).toNat)
    case atStart => exact ⟨0, c, d, rfl, rfl, by go_num, by omega, Lib.hid ⟨rfl, rfl⟩, bfin (by go_grown) hb2⟩
    case round =>
      obtain ⟨k, a, b, rfl, rfl, rfl, hk, HN, hb⟩ := hrel
      by_cases hlt : k + 1 < N
      · have HG := Lib.hid (fun W => l01Gcd_any ((k : Int) + 1) N W (by omega) (by omega) (by omega) (by omega))
        have hnn : (N : Int) ≠ 0 := by omega
        by_cases hg : (Int.gcd ((k : Int) + 1) N : Int) = 1
        · have HG1 := HG.out
          rw [hg] at HG1
          have HG := Lib.hid HG1
          clear HG1
          obtain ⟨mw1, mt1, ml1, mh1⟩ := mulMod (k := (k : Int) + 1) (c := c) (n := (N : Int)) (by omega) (by omega) c0 (by omega) (by omega)
          obtain ⟨mw2, mt2, ml2, mh2⟩ := mulMod (k := (k : Int) + 1) (c := d) (n := (N : Int)) (by omega) (by omega) d0 (by omega) (by omega)
          have HY := Lib.hid (@nrm_yes N c d k hg)
          have HNo := Lib.hid (@nrm_no N c d k)
          rw [HN.out.1, HN.out.2] at HY HNo
          clear hg
          generalize ((k : Int) + 1) * c % (N : Int) = A at *
          generalize ((k : Int) + 1) * d % (N : Int) = B at *
          rcases (show A < a ∨ (¬ A < a ∧ A = a ∧ B < b) ∨ (¬ A < a ∧ ¬ (A = a ∧ B < b)) by omega) with h1 | ⟨h1, h2, h3⟩ | ⟨h1, h2⟩
          · have HV := Lib.hid (HY.out (lexB_iff.2 (.inl h1)))
            go_wp2_with fail
            refine (HG.out _).mono ?_; rintro e w3 ⟨rfl, hb3⟩
            go_wp2_with fail
            go_quiet (fail)
            go_wp2_with fail
            go_roundw
            case rel => exact ⟨k + 1, A, B, rfl, rfl, by go_num, by omega, Lib.hid ⟨by rw [HV.out], by rw [HV.out]⟩, below_drewN (hb.trans (hb3.mono hb.size)) _⟩
            case measure => simp [intOf]; omega
          · have HV := Lib.hid (HY.out (lexB_iff.2 (.inr ⟨h2, h3⟩)))
            subst h2
            have h4 : (A == A) = true := by simp
            go_wp2_with fail
            refine (HG.out _).mono ?_; rintro e w3 ⟨rfl, hb3⟩
            go_wp2_with fail
            go_quiet (fail)
            go_wp2_with fail
            go_roundw
            case rel => exact ⟨k + 1, A, B, rfl, rfl, by go_num, by omega, Lib.hid ⟨by rw [HV.out], by rw [HV.out]⟩, below_drewN (hb.trans (hb3.mono hb.size)) _⟩
            case measure => simp [intOf]; omega
          · have HV := Lib.hid (HNo.out (lexB_no.2 (by omega)))
            by_cases h3 : A = a
            · subst h3
              have h4 : (A == A) = true := by simp
              have h5 : ¬ B < b := fun h => h2 ⟨rfl, h⟩
              clear h2
              go_wp2_with fail
              refine (HG.out _).mono ?_; rintro e w3 ⟨rfl, hb3⟩
              go_wp2_with fail
              go_quiet (fail)
              go_wp2_with fail
              go_roundw
              case rel => exact ⟨k + 1, A, b, rfl, rfl, by go_num, by omega, Lib.hid ⟨by rw [HV.out]; exact HN.out.1, by rw [HV.out]; exact HN.out.2⟩, below_drewN (hb.trans (hb3.mono hb.size)) _⟩
              case measure => simp [intOf]; omega
            · have h4 : (A == a) = false := by simp [h3]
              clear h2 h3
              go_wp2_with fail
              refine (HG.out _).mono ?_; rintro e w3 ⟨rfl, hb3⟩
              go_wp2_with fail
              go_quiet (fail)
              go_wp2_with fail
              go_roundw
              case rel => exact ⟨k + 1, a, b, rfl, rfl, by go_num, by omega, Lib.hid ⟨by rw [HV.out]; exact HN.out.1, by rw [HV.out]; exact HN.out.2⟩, below_drewN (hb.trans (hb3.mono hb.size)) _⟩
              case measure => simp [intOf]; omega
        · have HV := Lib.hid (@nrm_skip N c d k hg)
          have hg2 : ((Int.gcd ((k : Int) + 1) N : Int) != 1) = true := by simpa using hg
          clear hg
          generalize (Int.gcd ((k : Int) + 1) N : Int) = g2 at *
          go_wp2_with fail
          refine (HG.out _).mono ?_; rintro e w3 ⟨rfl, hb3⟩
          go_wp2_with fail
          go_roundw
          case rel => exact ⟨k + 1, a, b, rfl, rfl, by go_num, by omega, Lib.hid ⟨by rw [HV.out]; exact HN.out.1, by rw [HV.out]; exact HN.out.2⟩, hb.trans (hb3.mono hb.size)⟩
          case measure => simp [intOf]; omega
      · have HE := Lib.hid (show N - 1 = k by omega)
        have HF : Hid ((nrm N c d (N - 1)).x = a ∧ (nrm N c d (N - 1)).y = b) := by rw [HE.out]; exact HN
        go_wp2_with fail
        go_ret3
        exact ⟨ret_nrm HF.out.1 HF.out.2, hb⟩
  · have E := Lib.hid (show nrmV N c d = .tuple #[(.int .i64 0), (.int .i64 0), .bool false] by unfold nrmV; rw [if_neg hp])
    rw [E.out]
    have hp2 : ((Int.gcd (Int.gcd c d : Int) N : Int) != 1) = true := by simpa [isPairB] using hp
    clear E hp
    generalize (Int.gcd (Int.gcd c d : Int) N : Int) = g3 at *
    generalize (Int.gcd c d : Int) = g at *
    go_enter Try.func64, Try.ntmps64
    go_wp2_with fail
    refine (H1.out _).mono ?_; rintro e w1 ⟨rfl, hb1⟩
    obtain ⟨hc1, hf1⟩ := bcell hb1
    go_wp2_with fail
    refine (H2.out _).mono ?_; rintro e w2 ⟨rfl, hb2⟩
    replace hb2 := bstep hb1 hb2
    clear hc1 hf1 hb1
    obtain ⟨hc2, hf2⟩ := bcell hb2
    have hB2 : Below w.heap.size w w2 := bfin (by go_grown) hb2
    go_wp2_with fail
    go_ret3
    exact ⟨rfl, by go_grown⟩
end Go.Proofs.Ytjkemnnkgihefaa
/- Contracts: the normal pair, the program's own. -/
namespace Go.Proofs.Ytjkemnnkgihefaa
open Go.RowKit
set_option maxRecDepth 100000 in
set_option maxHeartbeats 4000000 in
theorem normal_any (N : Nat) (c d : Int) (w : World) (n0 : 0 < N) (n1 : N ≤ 1000) (hc : 0 ≤ c ∧ c < N) (hd : 0 ≤ d ∧ d < N) :
    Calls Try.prog 57 #[(.int .i64 ((N : Int))), (.agg #[.int .i64 c, .int .i64 d])] w fun e w' => e = .returned (.agg #[.int .i64 ((normal N c d).x), .int .i64 ((normal N c d).y)]) ∧ Below w.heap.size w w' := by
  have HBd := Lib.hid (fun k => nrm_bd (n := (N : Int)) (by omega) hc hd k)
  obtain ⟨c0, c1⟩ := hc
  obtain ⟨d0, d1⟩ := hd
  have E := Lib.hid (show normal N c d = nrm N c d (N - 1) by unfold normal; rw [show ((N : Int) - 1).toNat = N - 1 by omega])
  rw [E.out]
  clear E
  go_enter Try.func57, Try.ntmps57
  go_wp2_with fail
  go_loopw [6] (fun u wr => ∃ k : Nat, ∃ a b : Int, u = (.int .i64 ((k : Int) + 1)) ∧ k + 1 ≤ N ∧ Hid ((nrm N c d k).x = a ∧ (nrm N c d k).y = b ∧ Blk2 wr w.heap.size 79 c d ∧ Blk2 wr (w.heap.size + 1) 79 0 0 ∧ Blk2 wr (w.heap.size + 1 + 1) 79 a b) ∧ Below w.heap.size w wr) (fun u _ => N - (intOf u).toNat)
  case atStart => exact ⟨0, c, d, by go_num, by omega, Lib.hid ⟨rfl, rfl, heap_alloc (heap_alloc heap_new), heap_alloc (heap_new' (by simp)), heap_new' (by simp)⟩, by go_grown⟩
  case round =>
    obtain ⟨k, a, b, rfl, hk, HN, hb⟩ := hrel
    obtain ⟨⟨x0, x1⟩, ⟨fx0, fx1⟩, lx⟩ := HN.out.2.2.1.open_
    obtain ⟨⟨z0, z1⟩, ⟨fz0, fz1⟩, lz⟩ := HN.out.2.2.2.1.open_
    obtain ⟨⟨y0, y1⟩, ⟨fy0, fy1⟩, ly⟩ := HN.out.2.2.2.2.open_
    have hsz := hb.size
    by_cases hlt : k + 1 < N
    · have HG := Lib.hid (fun W => divisor_any ((k : Int) + 1) N W (by omega) (by omega) (by omega) (by omega))
      have hnn : (N : Int) ≠ 0 := by omega
      by_cases hg : (Int.gcd ((k : Int) + 1) N : Int) = 1
      · have HG1 := HG.out
        rw [hg] at HG1
        have HG := Lib.hid HG1
        clear HG1
        obtain ⟨mw1, mt1, ml1, mh1⟩ := mulMod (k := (k : Int) + 1) (c := c) (n := (N : Int)) (by omega) (by omega) c0 (by omega) (by omega)
        obtain ⟨mw2, mt2, ml2, mh2⟩ := mulMod (k := (k : Int) + 1) (c := d) (n := (N : Int)) (by omega) (by omega) d0 (by omega) (by omega)
        have HY := Lib.hid (@nrm_yes N c d k hg)
        have HNo := Lib.hid (@nrm_no N c d k)
        rw [HN.out.1, HN.out.2.1] at HY HNo
        clear hg
        generalize ((k : Int) + 1) * c % (N : Int) = A at *
        generalize ((k : Int) + 1) * d % (N : Int) = B at *
        cases hx : lexB A B a b
        · skip
          have HV := Lib.hid (HNo.out hx)
          have HC : ¬ cmpP A B a b < 0 := by rw [cmpP_lt, hx]; simp
          have HCmp := Lib.hid (fun b1 b2 W h0 h1 h2 h3 => compare2_any b1 b2 2 2 A B a b W h0 h1 h2 h3)
          have hnz : N ≠ 0 := by omega
          generalize cmpP A B a b = cp at *
          clear hx
          go_wp2_with fail
          refine (HG.out _).mono ?_; rintro e w3 ⟨rfl, hb3⟩
          obtain ⟨hc3, hf3⟩ := bcell hb3
          go_wp2_with fail
          obtain ⟨hz3_0, hz3_1, hz3_2⟩ : w.heap.size < w3.heap.size ∧ w.heap.size + 1 < w3.heap.size ∧ w.heap.size + 1 + 1 < w3.heap.size := by have := hb3.size; (try simp at this); omega
          have hB3 : Below w.heap.size w w3 := bfin (by go_grown) hb3
          refine wp_region_ord [(0, false), (1, false), (2, false), (3, false), (4, false), (5, false), (6, false), (7, false), (8, false), (9, false), (10, false), (11, false), (12, false), (13, true), (14, true)] (by kernel_rfl) (by kernel_rfl) ?_
          refine ord_q (o := ?o_1) (v := ?v_1) ?ho_1 ?hw_1 ?hq_1 ?_
          case ho_1 => simp only [List.getElem?_toArray, List.getElem?_cons_zero]; rfl
          case hw_1 => rfl
          case hq_1 =>
            intro W1 hW1
            obtain ⟨hcw, hfw⟩ := bcell hW1
            go_simp
            first | rfl
          simp only [Act.put, List.setIfInBounds_toArray, List.set_cons_zero, List.set_cons_succ]
          refine ord_q (o := ?o_2) (v := ?v_2) ?ho_2 ?hw_2 ?hq_2 ?_
          case ho_2 => simp only [List.getElem?_toArray, List.getElem?_cons_succ, List.getElem?_cons_zero]; rfl
          case hw_2 => rfl
          case hq_2 =>
            intro W1 hW1
            obtain ⟨hcw, hfw⟩ := bcell hW1
            go_simp
            first | rfl
          simp only [Act.put, List.setIfInBounds_toArray, List.set_cons_zero, List.set_cons_succ]
          refine ord_q (o := ?o_3) (v := ?v_3) ?ho_3 ?hw_3 ?hq_3 ?_
          case ho_3 => simp only [List.getElem?_toArray, List.getElem?_cons_succ, List.getElem?_cons_zero]; rfl
          case hw_3 => rfl
          case hq_3 =>
            intro W1 hW1
            obtain ⟨hcw, hfw⟩ := bcell hW1
            go_simp
            first | rfl
          simp only [Act.put, List.setIfInBounds_toArray, List.set_cons_zero, List.set_cons_succ]
          refine ord_q (o := ?o_4) (v := ?v_4) ?ho_4 ?hw_4 ?hq_4 ?_
          case ho_4 => simp only [List.getElem?_toArray, List.getElem?_cons_succ, List.getElem?_cons_zero]; rfl
          case hw_4 => rfl
          case hq_4 =>
            intro W1 hW1
            obtain ⟨hcw, hfw⟩ := bcell hW1
            go_simp
            first | rfl
          simp only [Act.put, List.setIfInBounds_toArray, List.set_cons_zero, List.set_cons_succ]
          refine ord_q (o := ?o_5) (v := ?v_5) ?ho_5 ?hw_5 ?hq_5 ?_
          case ho_5 => simp only [List.getElem?_toArray, List.getElem?_cons_succ, List.getElem?_cons_zero]; rfl
          case hw_5 => rfl
          case hq_5 =>
            intro W1 hW1
            obtain ⟨hcw, hfw⟩ := bcell hW1
            go_simp
            first | rfl
          simp only [Act.put, List.setIfInBounds_toArray, List.set_cons_zero, List.set_cons_succ]
          refine ord_q (o := ?o_6) (v := ?v_6) ?ho_6 ?hw_6 ?hq_6 ?_
          case ho_6 => simp only [List.getElem?_toArray, List.getElem?_cons_succ, List.getElem?_cons_zero]; rfl
          case hw_6 => rfl
          case hq_6 =>
            intro W1 hW1
            obtain ⟨hcw, hfw⟩ := bcell hW1
            go_simp
            first | rfl
          simp only [Act.put, List.setIfInBounds_toArray, List.set_cons_zero, List.set_cons_succ]
          refine ord_q (o := ?o_7) (v := ?v_7) ?ho_7 ?hw_7 ?hq_7 ?_
          case ho_7 => simp only [List.getElem?_toArray, List.getElem?_cons_succ, List.getElem?_cons_zero]; rfl
          case hw_7 => rfl
          case hq_7 =>
            intro W1 hW1
            obtain ⟨hcw, hfw⟩ := bcell hW1
            go_simp
            first | rfl
          simp only [Act.put, List.setIfInBounds_toArray, List.set_cons_zero, List.set_cons_succ]
          refine ord_q (o := ?o_8) (v := ?v_8) ?ho_8 ?hw_8 ?hq_8 ?_
          case ho_8 => simp only [List.getElem?_toArray, List.getElem?_cons_succ, List.getElem?_cons_zero]; rfl
          case hw_8 => rfl
          case hq_8 =>
            intro W1 hW1
            obtain ⟨hcw, hfw⟩ := bcell hW1
            go_simp
            first | rfl
          simp only [Act.put, List.setIfInBounds_toArray, List.set_cons_zero, List.set_cons_succ]
          refine ord_q (o := ?o_9) (v := ?v_9) ?ho_9 ?hw_9 ?hq_9 ?_
          case ho_9 => simp only [List.getElem?_toArray, List.getElem?_cons_succ, List.getElem?_cons_zero]; rfl
          case hw_9 => rfl
          case hq_9 =>
            intro W1 hW1
            obtain ⟨hcw, hfw⟩ := bcell hW1
            go_simp
            first | rfl
          simp only [Act.put, List.setIfInBounds_toArray, List.set_cons_zero, List.set_cons_succ]
          refine ord_q (o := ?o_10) (v := ?v_10) ?ho_10 ?hw_10 ?hq_10 ?_
          case ho_10 => simp only [List.getElem?_toArray, List.getElem?_cons_succ, List.getElem?_cons_zero]; rfl
          case hw_10 => rfl
          case hq_10 =>
            intro W1 hW1
            obtain ⟨hcw, hfw⟩ := bcell hW1
            go_simp
            first | rfl
          simp only [Act.put, List.setIfInBounds_toArray, List.set_cons_zero, List.set_cons_succ]
          refine ord_q (o := ?o_11) (v := ?v_11) ?ho_11 ?hw_11 ?hq_11 ?_
          case ho_11 => simp only [List.getElem?_toArray, List.getElem?_cons_succ, List.getElem?_cons_zero]; rfl
          case hw_11 => rfl
          case hq_11 =>
            intro W1 hW1
            obtain ⟨hcw, hfw⟩ := bcell hW1
            go_simp
            first | rfl
          simp only [Act.put, List.setIfInBounds_toArray, List.set_cons_zero, List.set_cons_succ]
          refine ord_q (o := ?o_12) (v := ?v_12) ?ho_12 ?hw_12 ?hq_12 ?_
          case ho_12 => simp only [List.getElem?_toArray, List.getElem?_cons_succ, List.getElem?_cons_zero]; rfl
          case hw_12 => rfl
          case hq_12 =>
            intro W1 hW1
            obtain ⟨hcw, hfw⟩ := bcell hW1
            go_simp
            first | rfl
          simp only [Act.put, List.setIfInBounds_toArray, List.set_cons_zero, List.set_cons_succ]
          refine ord_q (o := ?o_13) (v := ?v_13) ?ho_13 ?hw_13 ?hq_13 ?_
          case ho_13 => simp only [List.getElem?_toArray, List.getElem?_cons_succ, List.getElem?_cons_zero]; rfl
          case hw_13 => rfl
          case hq_13 =>
            intro W1 hW1
            obtain ⟨hcw, hfw⟩ := bcell hW1
            go_simp
            first | rfl
          simp only [Act.put, List.setIfInBounds_toArray, List.set_cons_zero, List.set_cons_succ]
          refine ord_alloc (o := ?o_14) (z := #[.int .i64 0, .int .i64 0]) (t := 79) (Nat.le_refl _) ?ho_14 ?hw_14 ?hr_14 (fun b4_0 hb4_0 hdb4_0 => ?_)
          case ho_14 => simp only [List.getElem?_toArray, List.getElem?_cons_succ, List.getElem?_cons_zero]; rfl
          case hw_14 => rfl
          case hr_14 => intro W1; go_simp
          simp only [Act.put, List.setIfInBounds_toArray, List.set_cons_zero, List.set_cons_succ]
          refine ord_store2 (o := ?o_15) (b := b4_0) (u0 := .int .i64 0) (u1 := .int .i64 0) (t := 79) (.int .i64 (A)) (.int .i64 (B)) ?ho_15 ?hw_15 hb4_0 (by simp) ?hr_15 ?_
          case ho_15 => simp only [List.getElem?_toArray, List.getElem?_cons_succ, List.getElem?_cons_zero]; rfl
          case hw_15 => rfl
          case hr_15 =>
            intro W1 hcs hfs
            obtain ⟨hs0, hs1⟩ := hcs
            have hg0 := hfs 0
            have hg1 := hfs 1
            go_simp
          simp only [Act.put]
          intro w4 hw4
          have hb4 := hw4.below
          obtain ⟨hBb4_0, hhb4_0⟩ := hw4.blk (b4_0, #[.int .i64 (A), .int .i64 (B)], 79) (by simp [putBlk])
          have hzb4_0 := lt_of_blk hhb4_0
          have qb4_0_0 : w4.cell? ⟨b4_0, 0, none⟩ = some (.int .i64 (A)) := cell_of_blk hhb4_0 0
          have rb4_0_0 : w4.frozen? ⟨b4_0, 0, none⟩ = false := frozen_of_blk hhb4_0 0
          have qb4_0_1 : w4.cell? ⟨b4_0, 1, none⟩ = some (.int .i64 (B)) := cell_of_blk hhb4_0 1
          have rb4_0_1 : w4.frozen? ⟨b4_0, 1, none⟩ = false := frozen_of_blk hhb4_0 1
          clear hhb4_0
          clear hw4
          obtain ⟨hc4, hf4⟩ := bcell hb4
          obtain ⟨hz4_0, hz4_1, hz4_2⟩ : w.heap.size < w4.heap.size ∧ w.heap.size + 1 < w4.heap.size ∧ w.heap.size + 1 + 1 < w4.heap.size := by have := hb4.size; (try simp at this); omega
          go_wp2_with fail
          have hB4 : Below w.heap.size w w4 := bfin (by go_grown) hb4
          refine wp_region_ext (by kernel_rfl) (by kernel_rfl) ?_
          repeat (go_big_quiet_step (first | ((go_at_call 68; refine Calls.ext_same (HCmp.out _ _ _ (by go_simp) (by go_simp) (by go_simp) (by go_simp))))))
          refine wpQuiet_nil ?_
          intro w5 hb5
          obtain ⟨hc5, hf5⟩ := bcell hb5
          have HX5 := Lib.hid (heap_below (heap_below (heap_below HN.out.2.2.1 hb3) hb4) hb5)
          have HZ5 := Lib.hid (heap_below (heap_below (heap_below HN.out.2.2.2.1 hb3) hb4) hb5)
          have HY5 := Lib.hid (heap_below (heap_below (heap_below HN.out.2.2.2.2 hb3) hb4) hb5)
          obtain ⟨⟨p0, p1⟩, ⟨gp0, gp1⟩, lp⟩ := Blk2.open_ HY5.out
          obtain ⟨hz5_0, hz5_1, hz5_2⟩ : w.heap.size < w5.heap.size ∧ w.heap.size + 1 < w5.heap.size ∧ w.heap.size + 1 + 1 < w5.heap.size := by have := hb5.size; (try simp at this); omega
          have hz5_0 : b4_0 < w5.heap.size := by have := hb5.size; (try simp at this); omega
          have hB5 : Below w.heap.size w w5 := (hb.trans (hb3.mono hsz)).trans ((hb4.trans (hb5.mono hb4.size)).mono (Nat.le_trans hsz hb3.size))
          have hs5 := hB5.size
          go_wp2_with fail
          go_roundw
          case rel => exact ⟨k + 1, a, b, by go_num, by omega, Lib.hid ⟨by rw [HV.out]; exact HN.out.1, by rw [HV.out]; exact HN.out.2.1, HX5.out, HZ5.out, HY5.out⟩, by go_grown⟩
          case measure => simp [intOf]; omega
        · skip
          have HV := Lib.hid (HY.out hx)
          have HC : cmpP A B a b < 0 := by rw [cmpP_lt, hx]
          have HCmp := Lib.hid (fun b1 b2 W h0 h1 h2 h3 => compare2_any b1 b2 2 2 A B a b W h0 h1 h2 h3)
          have hnz : N ≠ 0 := by omega
          generalize cmpP A B a b = cp at *
          clear hx
          go_wp2_with fail
          refine (HG.out _).mono ?_; rintro e w3 ⟨rfl, hb3⟩
          obtain ⟨hc3, hf3⟩ := bcell hb3
          go_wp2_with fail
          obtain ⟨hz3_0, hz3_1, hz3_2⟩ : w.heap.size < w3.heap.size ∧ w.heap.size + 1 < w3.heap.size ∧ w.heap.size + 1 + 1 < w3.heap.size := by have := hb3.size; (try simp at this); omega
          have hB3 : Below w.heap.size w w3 := bfin (by go_grown) hb3
          refine wp_region_ord [(0, false), (1, false), (2, false), (3, false), (4, false), (5, false), (6, false), (7, false), (8, false), (9, false), (10, false), (11, false), (12, false), (13, true), (14, true)] (by kernel_rfl) (by kernel_rfl) ?_
          refine ord_q (o := ?o_16) (v := ?v_16) ?ho_16 ?hw_16 ?hq_16 ?_
          case ho_16 => simp only [List.getElem?_toArray, List.getElem?_cons_zero]; rfl
          case hw_16 => rfl
          case hq_16 =>
            intro W1 hW1
            obtain ⟨hcw, hfw⟩ := bcell hW1
            go_simp
            first | rfl
          simp only [Act.put, List.setIfInBounds_toArray, List.set_cons_zero, List.set_cons_succ]
          refine ord_q (o := ?o_17) (v := ?v_17) ?ho_17 ?hw_17 ?hq_17 ?_
          case ho_17 => simp only [List.getElem?_toArray, List.getElem?_cons_succ, List.getElem?_cons_zero]; rfl
          case hw_17 => rfl
          case hq_17 =>
            intro W1 hW1
            obtain ⟨hcw, hfw⟩ := bcell hW1
            go_simp
            first | rfl
          simp only [Act.put, List.setIfInBounds_toArray, List.set_cons_zero, List.set_cons_succ]
          refine ord_q (o := ?o_18) (v := ?v_18) ?ho_18 ?hw_18 ?hq_18 ?_
          case ho_18 => simp only [List.getElem?_toArray, List.getElem?_cons_succ, List.getElem?_cons_zero]; rfl
          case hw_18 => rfl
          case hq_18 =>
            intro W1 hW1
            obtain ⟨hcw, hfw⟩ := bcell hW1
            go_simp
            first | rfl
          simp only [Act.put, List.setIfInBounds_toArray, List.set_cons_zero, List.set_cons_succ]
          refine ord_q (o := ?o_19) (v := ?v_19) ?ho_19 ?hw_19 ?hq_19 ?_
          case ho_19 => simp only [List.getElem?_toArray, List.getElem?_cons_succ, List.getElem?_cons_zero]; rfl
          case hw_19 => rfl
          case hq_19 =>
            intro W1 hW1
            obtain ⟨hcw, hfw⟩ := bcell hW1
            go_simp
            first | rfl
          simp only [Act.put, List.setIfInBounds_toArray, List.set_cons_zero, List.set_cons_succ]
          refine ord_q (o := ?o_20) (v := ?v_20) ?ho_20 ?hw_20 ?hq_20 ?_
          case ho_20 => simp only [List.getElem?_toArray, List.getElem?_cons_succ, List.getElem?_cons_zero]; rfl
          case hw_20 => rfl
          case hq_20 =>
            intro W1 hW1
            obtain ⟨hcw, hfw⟩ := bcell hW1
            go_simp
            first | rfl
          simp only [Act.put, List.setIfInBounds_toArray, List.set_cons_zero, List.set_cons_succ]
          refine ord_q (o := ?o_21) (v := ?v_21) ?ho_21 ?hw_21 ?hq_21 ?_
          case ho_21 => simp only [List.getElem?_toArray, List.getElem?_cons_succ, List.getElem?_cons_zero]; rfl
          case hw_21 => rfl
          case hq_21 =>
            intro W1 hW1
            obtain ⟨hcw, hfw⟩ := bcell hW1
            go_simp
            first | rfl
          simp only [Act.put, List.setIfInBounds_toArray, List.set_cons_zero, List.set_cons_succ]
          refine ord_q (o := ?o_22) (v := ?v_22) ?ho_22 ?hw_22 ?hq_22 ?_
          case ho_22 => simp only [List.getElem?_toArray, List.getElem?_cons_succ, List.getElem?_cons_zero]; rfl
          case hw_22 => rfl
          case hq_22 =>
            intro W1 hW1
            obtain ⟨hcw, hfw⟩ := bcell hW1
            go_simp
            first | rfl
          simp only [Act.put, List.setIfInBounds_toArray, List.set_cons_zero, List.set_cons_succ]
          refine ord_q (o := ?o_23) (v := ?v_23) ?ho_23 ?hw_23 ?hq_23 ?_
          case ho_23 => simp only [List.getElem?_toArray, List.getElem?_cons_succ, List.getElem?_cons_zero]; rfl
          case hw_23 => rfl
          case hq_23 =>
            intro W1 hW1
            obtain ⟨hcw, hfw⟩ := bcell hW1
            go_simp
            first | rfl
          simp only [Act.put, List.setIfInBounds_toArray, List.set_cons_zero, List.set_cons_succ]
          refine ord_q (o := ?o_24) (v := ?v_24) ?ho_24 ?hw_24 ?hq_24 ?_
          case ho_24 => simp only [List.getElem?_toArray, List.getElem?_cons_succ, List.getElem?_cons_zero]; rfl
          case hw_24 => rfl
          case hq_24 =>
            intro W1 hW1
            obtain ⟨hcw, hfw⟩ := bcell hW1
            go_simp
            first | rfl
          simp only [Act.put, List.setIfInBounds_toArray, List.set_cons_zero, List.set_cons_succ]
          refine ord_q (o := ?o_25) (v := ?v_25) ?ho_25 ?hw_25 ?hq_25 ?_
          case ho_25 => simp only [List.getElem?_toArray, List.getElem?_cons_succ, List.getElem?_cons_zero]; rfl
          case hw_25 => rfl
          case hq_25 =>
            intro W1 hW1
            obtain ⟨hcw, hfw⟩ := bcell hW1
            go_simp
            first | rfl
          simp only [Act.put, List.setIfInBounds_toArray, List.set_cons_zero, List.set_cons_succ]
          refine ord_q (o := ?o_26) (v := ?v_26) ?ho_26 ?hw_26 ?hq_26 ?_
          case ho_26 => simp only [List.getElem?_toArray, List.getElem?_cons_succ, List.getElem?_cons_zero]; rfl
          case hw_26 => rfl
          case hq_26 =>
            intro W1 hW1
            obtain ⟨hcw, hfw⟩ := bcell hW1
            go_simp
            first | rfl
          simp only [Act.put, List.setIfInBounds_toArray, List.set_cons_zero, List.set_cons_succ]
          refine ord_q (o := ?o_27) (v := ?v_27) ?ho_27 ?hw_27 ?hq_27 ?_
          case ho_27 => simp only [List.getElem?_toArray, List.getElem?_cons_succ, List.getElem?_cons_zero]; rfl
          case hw_27 => rfl
          case hq_27 =>
            intro W1 hW1
            obtain ⟨hcw, hfw⟩ := bcell hW1
            go_simp
            first | rfl
          simp only [Act.put, List.setIfInBounds_toArray, List.set_cons_zero, List.set_cons_succ]
          refine ord_q (o := ?o_28) (v := ?v_28) ?ho_28 ?hw_28 ?hq_28 ?_
          case ho_28 => simp only [List.getElem?_toArray, List.getElem?_cons_succ, List.getElem?_cons_zero]; rfl
          case hw_28 => rfl
          case hq_28 =>
            intro W1 hW1
            obtain ⟨hcw, hfw⟩ := bcell hW1
            go_simp
            first | rfl
          simp only [Act.put, List.setIfInBounds_toArray, List.set_cons_zero, List.set_cons_succ]
          refine ord_alloc (o := ?o_29) (z := #[.int .i64 0, .int .i64 0]) (t := 79) (Nat.le_refl _) ?ho_29 ?hw_29 ?hr_29 (fun b4_0 hb4_0 hdb4_0 => ?_)
          case ho_29 => simp only [List.getElem?_toArray, List.getElem?_cons_succ, List.getElem?_cons_zero]; rfl
          case hw_29 => rfl
          case hr_29 => intro W1; go_simp
          simp only [Act.put, List.setIfInBounds_toArray, List.set_cons_zero, List.set_cons_succ]
          refine ord_store2 (o := ?o_30) (b := b4_0) (u0 := .int .i64 0) (u1 := .int .i64 0) (t := 79) (.int .i64 (A)) (.int .i64 (B)) ?ho_30 ?hw_30 hb4_0 (by simp) ?hr_30 ?_
          case ho_30 => simp only [List.getElem?_toArray, List.getElem?_cons_succ, List.getElem?_cons_zero]; rfl
          case hw_30 => rfl
          case hr_30 =>
            intro W1 hcs hfs
            obtain ⟨hs0, hs1⟩ := hcs
            have hg0 := hfs 0
            have hg1 := hfs 1
            go_simp
          simp only [Act.put]
          intro w4 hw4
          have hb4 := hw4.below
          obtain ⟨hBb4_0, hhb4_0⟩ := hw4.blk (b4_0, #[.int .i64 (A), .int .i64 (B)], 79) (by simp [putBlk])
          have hzb4_0 := lt_of_blk hhb4_0
          have qb4_0_0 : w4.cell? ⟨b4_0, 0, none⟩ = some (.int .i64 (A)) := cell_of_blk hhb4_0 0
          have rb4_0_0 : w4.frozen? ⟨b4_0, 0, none⟩ = false := frozen_of_blk hhb4_0 0
          have qb4_0_1 : w4.cell? ⟨b4_0, 1, none⟩ = some (.int .i64 (B)) := cell_of_blk hhb4_0 1
          have rb4_0_1 : w4.frozen? ⟨b4_0, 1, none⟩ = false := frozen_of_blk hhb4_0 1
          clear hhb4_0
          clear hw4
          obtain ⟨hc4, hf4⟩ := bcell hb4
          obtain ⟨hz4_0, hz4_1, hz4_2⟩ : w.heap.size < w4.heap.size ∧ w.heap.size + 1 < w4.heap.size ∧ w.heap.size + 1 + 1 < w4.heap.size := by have := hb4.size; (try simp at this); omega
          go_wp2_with fail
          have hB4 : Below w.heap.size w w4 := bfin (by go_grown) hb4
          refine wp_region_ext (by kernel_rfl) (by kernel_rfl) ?_
          repeat (go_big_quiet_step (first | ((go_at_call 68; refine Calls.ext_same (HCmp.out _ _ _ (by go_simp) (by go_simp) (by go_simp) (by go_simp))))))
          refine wpQuiet_nil ?_
          intro w5 hb5
          obtain ⟨hc5, hf5⟩ := bcell hb5
          have HX5 := Lib.hid (heap_below (heap_below (heap_below HN.out.2.2.1 hb3) hb4) hb5)
          have HZ5 := Lib.hid (heap_below (heap_below (heap_below HN.out.2.2.2.1 hb3) hb4) hb5)
          have HY5 := Lib.hid (heap_below (heap_below (heap_below HN.out.2.2.2.2 hb3) hb4) hb5)
          obtain ⟨⟨p0, p1⟩, ⟨gp0, gp1⟩, lp⟩ := Blk2.open_ HY5.out
          obtain ⟨hz5_0, hz5_1, hz5_2⟩ : w.heap.size < w5.heap.size ∧ w.heap.size + 1 < w5.heap.size ∧ w.heap.size + 1 + 1 < w5.heap.size := by have := hb5.size; (try simp at this); omega
          have hz5_0 : b4_0 < w5.heap.size := by have := hb5.size; (try simp at this); omega
          have hB5 : Below w.heap.size w w5 := (hb.trans (hb3.mono hsz)).trans ((hb4.trans (hb5.mono hb4.size)).mono (Nat.le_trans hsz hb3.size))
          have hs5 := hB5.size
          go_wp2_with fail
          go_roundw
          case rel => exact ⟨k + 1, A, B, by go_num, by omega, Lib.hid ⟨by rw [HV.out], by rw [HV.out], heap_keep (heap_keep (by exact HX5.out) (by omega)) (by omega), heap_keep (heap_keep (by exact HZ5.out) (by omega)) (by omega), heap_set2 (by exact HY5.out)⟩, by go_grown⟩
          case measure => simp [intOf]; omega
      · have HV := Lib.hid (@nrm_skip N c d k hg)
        have hg1 : 1 < (Int.gcd ((k : Int) + 1) N : Int) := by
          have h0 : 0 < Int.gcd ((k : Int) + 1) (N : Int) := Int.gcd_pos_of_ne_zero_left _ (by omega)
          omega
        clear hg
        generalize (Int.gcd ((k : Int) + 1) N : Int) = g2 at *
        go_wp2_with fail
        refine (HG.out _).mono ?_; rintro e w3 ⟨rfl, hb3⟩
        have hB3 := hb.trans (hb3.mono hsz)
        go_wp2_with fail
        go_roundw
        case rel => exact ⟨k + 1, a, b, by go_num, by omega, Lib.hid ⟨by rw [HV.out]; exact HN.out.1, by rw [HV.out]; exact HN.out.2.1, heap_below HN.out.2.2.1 hb3, heap_below HN.out.2.2.2.1 hb3, heap_below HN.out.2.2.2.2 hb3⟩, hB3⟩
        case measure => simp [intOf]; omega
    · have HE := Lib.hid (show N - 1 = k by omega)
      have HF : Hid ((nrm N c d (N - 1)).x = a ∧ (nrm N c d (N - 1)).y = b) := by rw [HE.out]; exact Lib.hid ⟨HN.out.1, HN.out.2.1⟩
      go_wp2_with fail
      refine bodyPost_ret (v := (.agg #[.int .i64 a, .int .i64 b])) (by simp [results, Try.results57, go_sem, z0, z1]) rfl ⟨by rw [HF.out.1, HF.out.2], by go_grown⟩
end Go.Proofs.Ytjkemnnkgihefaa
/- Contracts: the line of a level, the number of a coset. -/
namespace Go.Proofs.Ytjkemnnkgihefaa
open Go.RowKit
theorem elP : Elem Try.prog 51 79 (.agg #[.int .i64 0, .int .i64 0]) 2 16 := elem_of Try.underlying51 (by kernel_rfl) rfl (by omega) (by omega)
theorem elS : Elem Try.prog 31 54 (.slice none 0 0) 1 24 := elem_of Try.underlying31 (by kernel_rfl) rfl (by omega) (by omega)
set_option maxRecDepth 100000 in
theorem eqPair (a b a' b' : Int) (w : World) : (Op.equalIn 10000 79 (.agg #[.int .i64 a, .int .i64 b]) (.agg #[.int .i64 a', .int .i64 b'])).run Try.prog w = .ok (a == a' && b == b') w :=
  run_equalIn_arr2 Try.underlying79 ⟨_, rfl⟩ Try.underlying2 (by kernel_rfl) (fun x y w => ⟨by kernel_rfl, by kernel_rfl⟩) a b a' b' w
attribute [local go_sem] eqPair
theorem selfB_eq {n c d : Int} (h : isPairB n c d = true) : ((normal n c d).x == c && (normal n c d).y == d) = selfB n c d := by
  unfold selfB
  rw [h, Bool.true_and, Bool.eq_iff_iff]
  simp only [Bool.and_eq_true, beq_iff_eq, decide_eq_true_eq]
  constructor
  · rintro ⟨h1, h2⟩
    generalize normal n c d = p at *
    obtain ⟨x, y⟩ := p
    simp only at h1 h2
    rw [h1, h2]
  · intro h1; rw [h1]; exact ⟨rfl, rfl⟩
theorem row_yes {n c : Int} {d : Nat} (h : selfB n c d = true) : lineRow n c (d + 1) = lineRow n c d ++ [⟨c, d⟩] := by
  show lineRow n c d ++ (if _ then _ else _) = _
  rw [if_pos h]
theorem row_no {n c : Int} {d : Nat} (h : selfB n c d = false) : lineRow n c (d + 1) = lineRow n c d := by
  show lineRow n c d ++ (if _ then _ else _) = _
  rw [if_neg (by rw [h]; simp)]; simp
structure LBd (n : Int) (N c d : Nat) : Prop where
  a : (lineTo n N c).length ≤ 3600
  b : (lineTo n N c ++ lineRow n c d).length ≤ 3660
theorem lBd {n : Int} {N c d : Nat} (h1 : N ≤ 60) (h2 : c ≤ 60) (h3 : d ≤ 60) : LBd n N c d := by
  have e1 := lineTo_len n N c
  have e2 := lineRow_len n c d
  have e3 : c * N ≤ 60 * 60 := Nat.mul_le_mul h2 h1
  refine ⟨by omega, ?_⟩
  rw [List.length_append]; omega
set_option maxRecDepth 100000 in
set_option maxHeartbeats 4000000 in
theorem line_any (N : Nat) (w : World) (n0 : 0 < N) (n1 : N ≤ 60) :
    Calls Try.prog 29 #[(.int .i64 ((N : Int)))] w fun e w' => ∃ v, e = .returned v ∧ w'.ownsRow w.heap.size 79 2 v (lineL N).length (ints (flat2 (lineL N))) ∧ Below w.heap.size w w' := by
  rw [show lineL (N : Int) = lineTo N N N by unfold lineL; rw [Int.toNat_natCast]]
  go_enter Try.func29, Try.ntmps29
  go_wp2_with fail
  go_loopw [3, 9] (fun v i wr => ∃ c : Nat, i = (.int .i64 ((c : Int))) ∧ c ≤ N ∧ Hid (wr.ownsRow w.heap.size 79 2 v (lineTo N N c).length (ints (flat2 (lineTo N N c)))) ∧ Below w.heap.size w wr) (fun _ i _ => N - (intOf i).toNat)
  case atStart => exact ⟨0, rfl, Nat.zero_le _, Lib.hid (World.ownsRow_lit w #[] 0 (Nat.le_refl _) (by simp [maxLen]) rfl), by go_grown⟩
  case round =>
    obtain ⟨c, rfl, hc, HO, hb⟩ := hrel
    obtain ⟨wo, rfl⟩ : ∃ wo : World, wo = wr := ⟨_, rfl⟩
    by_cases hlt : c < N
    · go_wp2_with fail
      go_loopw [3, 13] (fun v i wr => ∃ d : Nat, i = (.int .i64 ((d : Int))) ∧ d ≤ N ∧ Hid (wr.ownsRow w.heap.size 79 2 v (lineTo N N c ++ lineRow N c d).length (ints (flat2 (lineTo N N c ++ lineRow N c d)))) ∧ Below w.heap.size w wr) (fun _ i _ => N - (intOf i).toNat)
      case atStart => exact ⟨0, rfl, Nat.zero_le _, Lib.hid (by simpa [lineRow] using HO.out), hb⟩
      case round =>
        obtain ⟨d, rfl, hd, HO2, hb2⟩ := hrel
        have hsz := hb2.size
        by_cases hlt2 : d < N
        · have hlb := (lBd (n := (N : Int)) n1 (show c ≤ 60 by omega) (show d ≤ 60 by omega)).b
          have HI := Lib.hid (fun W => isPair_any (N : Int) c d W (by omega) (by omega) (by omega) (by omega) (by omega) (by omega))
          have HM := Lib.hid (fun W => normal_any N c d W n0 (by omega) ⟨by omega, by omega⟩ ⟨by omega, by omega⟩)
          cases hp : isPairB (N : Int) c d
          · have HV := Lib.hid (row_no (show selfB (N : Int) c d = false by simp [selfB, hp]))
            rw [hp] at HI
            clear hp HM
            go_wp2_with fail
            refine wp_region_ext (by kernel_rfl) (by kernel_rfl) ?_
            repeat (go_big_quiet_step (first | ((go_at_call 59; refine Calls.ext_of (Nat.le_refl _) (HI.out _)))))
            refine wpQuiet_nil ?_
            intro w6 hb6
            obtain ⟨hc6, hf6⟩ := bcell hb6
            go_wp2_with fail
            have hB6 : Below w.heap.size w w6 := bfin (by go_grown) hb6
            go_roundw
            case rel => exact ⟨d + 1, by go_num, by omega, Lib.hid (by rw [HV.out]; exact own_below (HO2.out.alloc _) hb6), hB6⟩
            case measure => simp [intOf]; omega
          · have HS := Lib.hid (selfB_eq hp)
            have HRY := Lib.hid (@row_yes N c d)
            have HRN := Lib.hid (@row_no N c d)
            rw [hp] at HI
            clear hp
            generalize selfB (N : Int) c d = sb at *
            generalize (normal (N : Int) c d).x = X at *
            generalize (normal (N : Int) c d).y = Y at *
            cases sb
            · have hE := HS.out
              have HV := Lib.hid (HRN.out rfl)
              go_wp2_with fail
              refine wp_region_ext (by kernel_rfl) (by kernel_rfl) ?_
              repeat (go_big_quiet_step (first | ((go_at_call 59; refine Calls.ext_of (Nat.le_refl _) (HI.out _))) | ((go_at_call 57; refine Calls.ext_of (Nat.le_refl _) (HM.out _)))))
              refine wpQuiet_nil ?_
              intro w6 hb6
              obtain ⟨hc6, hf6⟩ := bcell hb6
              go_wp2_with fail
              have hB6 : Below w.heap.size w w6 := bfin (by go_grown) hb6
              go_roundw
              case rel => exact ⟨d + 1, by go_num, by omega, Lib.hid (by rw [HV.out]; exact own_below (HO2.out.alloc _) hb6), hB6⟩
              case measure => simp [intOf]; omega
            · have hE := HS.out
              have HV := Lib.hid (HRY.out rfl)
              go_wp2_with fail
              refine wp_region_ext (by kernel_rfl) (by kernel_rfl) ?_
              repeat (go_big_quiet_step (first | ((go_at_call 59; refine Calls.ext_of (Nat.le_refl _) (HI.out _))) | ((go_at_call 57; refine Calls.ext_of (Nat.le_refl _) (HM.out _)))))
              refine wpQuiet_nil ?_
              intro w6 hb6
              obtain ⟨hc6, hf6⟩ := bcell hb6
              have hB6 : Below w.heap.size w w6 := bfin (by go_grown) hb6
              have hs6 := hB6.size
              go_wp2_with (at_builtin; refine app_one elP rfl _ _ rfl rfl rfl (by simp) (own_below (HO2.out.alloc _) hb6) (hB6) rfl (by intro u hu; simp at hu; first | (subst hu; rfl) | (rcases hu with rfl | rfl <;> rfl) | (rcases hu with rfl | rfl | rfl <;> rfl) | (rcases hu with rfl | rfl | rfl | rfl <;> rfl)) (hs6) (by omega) ?_; intro v' w7 hown7 hb7 hg7; have HO7 := Lib.hid hown7; clear hown7 hg7)
              go_roundw
              case rel => exact ⟨d + 1, by go_num, by omega, Lib.hid (by rw [HV.out, ← List.append_assoc, flat2_snoc]; simpa [ints, Nat.add_assoc] using HO7.out), hb7⟩
              case measure => simp [intOf]; omega
        · obtain rfl : d = N := by omega
          go_wp2_with fail
          go_roundw
          case rel => exact ⟨c + 1, by go_num, by omega, Lib.hid HO2.out, hb2⟩
          case measure => simp [intOf]; omega
    · obtain rfl : c = N := by omega
      go_wp2_with fail
      go_ret
      exact ⟨_, rfl, HO.out, hb⟩
/-- The rows of a line. -/
def lineXs (l : List P2) : List (List Int) := l.map fun p => [p.x, p.y]
theorem lineXs_at {l : List P2} {k : Nat} (h : k < l.length) : (lineXs l).getD k [] = [l[k].x, l[k].y] := by
  simp [lineXs, List.getD, List.getElem?_eq_getElem h]
theorem lineXs_snoc (l : List P2) (p : P2) (i : Nat) (hi : i < l.length + 1) : (lineXs (l ++ [p])).getD i [] = if i = l.length then [p.x, p.y] else (lineXs l).getD i [] := by
  by_cases h : i = l.length
  · subst h; simp [lineXs, List.getD]
  · rw [if_neg h]
    have : i < l.length := by omega
    simp [lineXs, List.getD, List.getElem?_append_left, this]
def lenX (xss : List (List Int)) (i : Nat) : Nat := (xss.getD i []).length
def intX (xss : List (List Int)) (i : Nat) : List Value := ints (xss.getD i [])
abbrev LineSS (w : World) (B : Nat) (v : Value) (l : List P2) (inn : List Value) : Prop := SS w B v l.length inn (lenX (lineXs l)) (intX (lineXs l))
theorem LineSS.push {wr w' : World} {B : Nat} {v v' : Value} {l : List P2} {inn : List Value} {p : P2} (h : LineSS wr B v l inn) (hB : B ≤ wr.heap.size)
    (ho : w'.ownsRow B 54 1 v' (l.length + 1) (inn ++ [.slice (some ⟨wr.heap.size, 0, none⟩) 2 2])) (ha : App (wr.alloc (.cells #[(.int .i64 p.x), (.int .i64 p.y)] 2)) w' v v') :
    LineSS w' B v' (l ++ [p]) (inn ++ [.slice (some ⟨wr.heap.size, 0, none⟩) 2 2]) := by
  have e : (l ++ [p]).length = l.length + 1 := by simp
  have := OwnsSS.push (vs := #[(.int .i64 p.x), (.int .i64 p.y)]) ss_ne h hB rfl (by simp [maxLen]) ho ha
  unfold LineSS
  rw [e]
  refine this.congr (fun i hi => ?_) (fun i hi => ?_)
  · unfold lenX; rw [lineXs_snoc l p i hi]; split <;> rfl
  · unfold intX; rw [lineXs_snoc l p i hi]; split
    · simp [ints]
    · rfl
theorem nrmV_yes {n c d : Int} (h : isPairB n c d = true) : nrmV n c d = .tuple #[(.int .i64 ((normal n c d).x)), (.int .i64 ((normal n c d).y)), .bool true] := by unfold nrmV; rw [if_pos h]
theorem nrmV_no {n c d : Int} (h : isPairB n c d = false) : nrmV n c d = .tuple #[(.int .i64 0), (.int .i64 0), .bool false] := by unfold nrmV; rw [if_neg (by rw [h]; simp)]
set_option maxRecDepth 100000 in
set_option maxHeartbeats 4000000 in
theorem l06Line_any (N : Nat) (w : World) (n0 : 0 < N) (n1 : N ≤ 60) :
    Calls Try.prog 36 #[(.int .i64 ((N : Int)))] w fun e w' => ∃ v inn, e = .returned v ∧ LineSS w' w.heap.size v (lineL N) inn ∧ Below w.heap.size w w' := by
  rw [show lineL (N : Int) = lineTo N N N by unfold lineL; rw [Int.toNat_natCast]]
  go_enter Try.func36, Try.ntmps36
  go_wp2_with fail
  go_loopw [3, 4] (fun v i wr => ∃ c : Nat, i = (.int .i64 ((c : Int))) ∧ c ≤ N ∧ Hid (∃ inn, LineSS wr w.heap.size v (lineTo N N c) inn) ∧ Below w.heap.size w wr) (fun _ i _ => N - (intOf i).toNat)
  case atStart => exact ⟨0, rfl, Nat.zero_le _, Lib.hid ⟨[], OwnsSS.lit0 w w.heap.size _ _ _ _ (Nat.le_refl _)⟩, by go_grown⟩
  case round =>
    obtain ⟨c, rfl, hc, HO, hb⟩ := hrel
    obtain ⟨wo, rfl⟩ : ∃ wo : World, wo = wr := ⟨_, rfl⟩
    by_cases hlt : c < N
    · go_wp2_with fail
      go_loopw [3, 5] (fun v i wr => ∃ d : Nat, i = (.int .i64 ((d : Int))) ∧ d ≤ N ∧ Hid (∃ inn, LineSS wr w.heap.size v (lineTo N N c ++ lineRow N c d) inn) ∧ Below w.heap.size w wr) (fun _ i _ => N - (intOf i).toNat)
      case atStart => exact ⟨0, rfl, Nat.zero_le _, Lib.hid (by simpa [lineRow] using HO.out), hb⟩
      case round =>
        obtain ⟨d, rfl, hd, HO2, hb2⟩ := hrel
        have hsz := hb2.size
        by_cases hlt2 : d < N
        · have hlb := (lBd (n := (N : Int)) n1 (show c ≤ 60 by omega) (show d ≤ 60 by omega)).b
          have HM := Lib.hid (fun W => l06Normal_any N c d W n0 (by omega) ⟨by omega, by omega⟩ ⟨by omega, by omega⟩)
          cases hp : isPairB (N : Int) c d
          · have HV := Lib.hid (row_no (show selfB (N : Int) c d = false by simp [selfB, hp]))
            rw [nrmV_no hp] at HM
            clear hp
            go_wp2_with fail
            refine (HM.out _).mono ?_; rintro e w6 ⟨rfl, hb6⟩
            go_wp2_with fail
            go_roundw
            case rel => exact ⟨d + 1, by go_num, by omega, Lib.hid (by rw [HV.out]; obtain ⟨inn, h⟩ := HO2.out; exact ⟨inn, h.below hb6⟩), hb2.trans (hb6.mono hsz)⟩
            case measure => simp [intOf]; omega
          · have HS := Lib.hid (selfB_eq hp)
            have HRY := Lib.hid (@row_yes N c d)
            have HRN := Lib.hid (@row_no N c d)
            rw [nrmV_yes hp] at HM
            clear hp
            generalize selfB (N : Int) c d = sb at *
            generalize (normal (N : Int) c d).x = X at *
            generalize (normal (N : Int) c d).y = Y at *
            cases sb
            · have HV := Lib.hid (HRN.out rfl)
              have hE := HS.out
              have hE2 : (X == (c : Int)) = false ∨ ((X == (c : Int)) = true ∧ (Y == (d : Int)) = false) := by
                revert hE; cases (X == (c : Int)) <;> cases (Y == (d : Int)) <;> simp
              clear hE
              rcases hE2 with hE | ⟨hE, hE'⟩
              all_goals
                go_wp2_with fail
                refine (HM.out _).mono ?_; rintro e w6 ⟨rfl, hb6⟩
                go_wp2_with fail
                go_roundw
                case rel => exact ⟨d + 1, by go_num, by omega, Lib.hid (by rw [HV.out]; obtain ⟨inn, h⟩ := HO2.out; exact ⟨inn, h.below hb6⟩), hb2.trans (hb6.mono hsz)⟩
                case measure => simp [intOf]; omega
            · have HV := Lib.hid (HRY.out rfl)
              have hE := HS.out
              have hE2 : (X == (c : Int)) = true ∧ (Y == (d : Int)) = true := by
                revert hE; cases (X == (c : Int)) <;> cases (Y == (d : Int)) <;> simp
              obtain ⟨hE1, hE3⟩ := hE2
              clear hE
              obtain ⟨inn, HO3⟩ := HO2.out
              have HO3 := Lib.hid HO3
              go_wp2_with fail
              refine (HM.out _).mono ?_; rintro e w6 ⟨rfl, hb6⟩
              have hB6 := hb2.trans (hb6.mono hsz)
              have hs6 := hB6.size
              go_wp2_with (at_builtin; refine app_one elS rfl _ _ rfl rfl rfl (by simp) ((own_below HO3.out.out hb6).alloc _) (hB6.alloc hs6 _) rfl (by intro u hu; simp at hu; first | (subst hu; rfl) | (rcases hu with rfl | rfl <;> rfl) | (rcases hu with rfl | rfl | rfl <;> rfl) | (rcases hu with rfl | rfl | rfl | rfl <;> rfl)) (Nat.le_trans hs6 (by simp)) (by omega) ?_; intro v' w7 hown7 hb7 hg7; have HO7 := Lib.hid hown7; clear hown7)
              have HP := Lib.hid (LineSS.push (p := ⟨(c : Int), (d : Int)⟩) (HO3.out.below hb6) hs6 HO7.out hg7)
              clear hg7
              go_wp2_with fail
              go_roundw
              case rel => exact ⟨d + 1, by go_num, by omega, Lib.hid ⟨_, by rw [HV.out, ← List.append_assoc]; exact HP.out⟩, hb7⟩
              case measure => simp [intOf]; omega
        · obtain rfl : d = N := by omega
          go_wp2_with fail
          go_roundw
          case rel => exact ⟨c + 1, by go_num, by omega, Lib.hid HO2.out, hb2⟩
          case measure => simp [intOf]; omega
    · obtain rfl : c = N := by omega
      go_wp2_with fail
      go_ret
      obtain ⟨inn, h⟩ := HO.out
      exact ⟨_, inn, rfl, h, hb⟩
end Go.Proofs.Ytjkemnnkgihefaa
/- Contracts: the number of a coset; the law CosetOf. -/
namespace Go.Proofs.Ytjkemnnkgihefaa
open Go.RowKit
attribute [local go_sem] eqPair
theorem flat2_at {l : List P2} {k : Nat} (h : k < l.length) : (ints (flat2 l))[k * 2]? = some (.int .i64 l[k].x) ∧ (ints (flat2 l))[k * 2 + 1]? = some (.int .i64 l[k].y) := by
  induction l generalizing k with
  | nil => simp at h
  | cons p l ih =>
    cases k with
    | zero => simp [flat2, ints]
    | succ k =>
      have := ih (k := k) (by simpa using h)
      have e : ints (flat2 (p :: l)) = .int .i64 p.x :: .int .i64 p.y :: ints (flat2 l) := by simp [flat2, ints]
      rw [e, show (k + 1) * 2 = k * 2 + 1 + 1 by omega]
      simp only [List.getElem?_cons_succ, List.getElem_cons_succ]
      exact this
theorem findI_step {p : P2} {l : List P2} {k : Nat} (hk : k < l.length) (hb : ∀ j (hj : j < l.length), j < k → l[j] ≠ p) (h : l[k] = p) : findI p l 0 = k := by
  rw [findI_hit hk h (fun j hj => hb j (by omega) hj) 0]; omega
theorem findI_end {p : P2} {l : List P2} (hb : ∀ j (hj : j < l.length), j < l.length → l[j] ≠ p) : findI p l 0 = -1 := by
  refine findI_none (fun hm => ?_) 0
  obtain ⟨j, hj, e⟩ := List.getElem_of_mem hm
  exact hb j hj hj e
theorem p2_eq {p q : P2} : (p.x == q.x && p.y == q.y) = decide (p = q) := by
  obtain ⟨a, b⟩ := p
  obtain ⟨c, d⟩ := q
  rw [Bool.eq_iff_iff]
  simp
set_option maxRecDepth 100000 in
set_option maxHeartbeats 2000000 in
theorem index_any (A : Option Addr) (cap B : Nat) (l : List P2) (p : P2) (w : World) (hl : l.length ≤ 4000) (h : RowAt w B A l.length (ints (flat2 l))) :
    Calls Try.prog 56 #[.slice A l.length cap, (.agg #[.int .i64 p.x, .int .i64 p.y])] w fun e w' => e = .returned (.int .i64 (findI p l 0)) ∧ Below w.heap.size w w' := by
  have H := Lib.hid h
  clear h
  have HP := Lib.hid (fun q => @p2_eq p q)
  obtain ⟨R, hR⟩ : ∃ R, findI p l 0 = R := ⟨_, rfl⟩
  have HR := Lib.hid hR
  rw [hR]
  clear hR
  have HH := Lib.hid (fun k hk hb h => @findI_step p l k hk hb h)
  have HN := Lib.hid (@findI_end p l)
  rw [HR.out] at HN
  obtain ⟨x, y⟩ := p
  simp only at HP
  go_enter Try.func56, Try.ntmps56
  go_wp2_with fail
  go_loopw [8] (fun i wr => ∃ k : Nat, i = (.int .i64 ((k : Int))) ∧ k ≤ l.length ∧ Hid ((∀ j (hj : j < l.length), j < k → l[j] ≠ ⟨x, y⟩) ∧ Blk2 wr w.heap.size 79 x y) ∧ Below w.heap.size w wr) (fun i _ => l.length - (intOf i).toNat)
  case atStart => exact ⟨0, rfl, Nat.zero_le _, Lib.hid ⟨fun j _ hj => by omega, heap_new⟩, by go_grown⟩
  case round =>
    obtain ⟨k, rfl, hk, HB, hb⟩ := hrel
    obtain ⟨⟨z0, z1⟩, ⟨fz0, fz1⟩, lz⟩ := HB.out.2.open_
    by_cases hlt : k < l.length
    · obtain ⟨b, rfl, -, hbl, hc, -⟩ := (H.out.below hb) (by omega)
      obtain ⟨hx, hy⟩ := flat2_at hlt
      have h1 := hc _ _ hx
      have h2 := hc _ _ hy
      have HE := Lib.hid (HP.out l[k])
      have HHk := Lib.hid (fun hb h => HH.out k hlt hb h)
      have HBn := Lib.hid (show l[k] ≠ ⟨x, y⟩ → ∀ j (hj : j < l.length), j < k + 1 → l[j] ≠ ⟨x, y⟩ from fun hne j hj hjk => by
        by_cases e : j = k
        · subst e; exact hne
        · exact HB.out.1 j hj (by omega))
      clear hc hx hy
      generalize l[k] = q at *
      by_cases he : q = ⟨x, y⟩
      · have hE : (x == q.x && y == q.y) = true := by rw [HE.out]; simp [he]
        have HV := Lib.hid (HHk.out HB.out.1 he)
        rw [HR.out] at HV
        have HE2 := Lib.hid he
        clear he
        go_wp2_with fail
        go_quiet (fail)
        go_wp2_with fail
        go_ret
        exact ⟨ret_int HV.out.symm, below_drewN hb _⟩
      · have hE : (x == q.x && y == q.y) = false := by rw [HE.out]; simp only [decide_eq_false_iff_not]; exact fun e => he e.symm
        have HE2 := Lib.hid (HBn.out he)
        clear he
        go_wp2_with fail
        go_quiet (fail)
        go_wp2_with fail
        go_roundw
        case rel => exact ⟨k + 1, by go_num, by omega, Lib.hid ⟨HE2.out, heap_drewN HB.out.2⟩, below_drewN hb _⟩
        case measure => simp [intOf]; omega
    · obtain rfl : k = l.length := by omega
      have HV := Lib.hid (HN.out HB.out.1)
      go_wp2_with fail
      go_ret
      exact ⟨ret_int HV.out.symm, hb⟩
theorem modB {c : Int} {N : Nat} (n0 : 0 < N) : 0 ≤ c % (N : Int) ∧ c % (N : Int) < N := ⟨Int.emod_nonneg c (by omega), Int.emod_lt_of_pos c (by omega)⟩
set_option maxRecDepth 100000 in
set_option maxHeartbeats 2000000 in
theorem coset_any (N : Nat) (A : Option Addr) (cap B : Nat) (l : List P2) (c d : Int) (w : World) (n0 : 0 < N) (n1 : N ≤ 60) (hl : l.length ≤ 4000) (h : RowAt w B A l.length (ints (flat2 l))) :
    Calls Try.prog 28 #[(.int .i64 ((N : Int))), .slice A l.length cap, (.int .i64 c), (.int .i64 d)] w fun e w' => e = .returned (.int .i64 (cosetI N l c d)) ∧ Below w.heap.size w w' := by
  have H1 := Lib.hid (fun W => rest_any c (N : Int) W (by omega) (by omega))
  have H2 := Lib.hid (fun W => rest_any d (N : Int) W (by omega) (by omega))
  have HM := Lib.hid (fun W => normal_any N (c % N) (d % N) W n0 (by omega) (modB n0) (modB n0))
  have HI := Lib.hid (fun W hb => index_any A cap B l (normal N (c % N) (d % N)) W hl (h.below hb))
  unfold cosetI
  clear h
  generalize c % (N : Int) = c' at *
  generalize d % (N : Int) = d' at *
  generalize normal (N : Int) c' d' = p at *
  go_enter Try.func28, Try.ntmps28
  go_wp2_with fail
  refine (H1.out _).mono ?_; rintro e w' ⟨rfl, rfl⟩
  go_wp2_with fail
  refine (H2.out _).mono ?_; rintro e w' ⟨rfl, rfl⟩
  go_wp2_with fail
  refine (HM.out _).mono ?_; rintro e w1 ⟨rfl, hb1⟩
  obtain ⟨hc1, hf1⟩ := bcell hb1
  go_wp2_with fail
  refine (HI.out _ hb1).mono ?_; rintro e w2 ⟨rfl, hb2⟩
  go_wp2_with fail
  go_ret
  exact ⟨rfl, hb1.trans (hb2.mono hb1.size)⟩
set_option maxRecDepth 100000 in
set_option maxHeartbeats 4000000 in
theorem l06Number_any (N : Nat) (v : Value) (B : Nat) (l : List P2) (inn : List Value) (c d : Int) (w : World) (n0 : 0 < N) (n1 : N ≤ 60) (hl : l.length ≤ 4000) (hp : isPairB N (c % N) (d % N) = true) (h : LineSS w B v l inn) :
    Calls Try.prog 38 #[(.int .i64 ((N : Int))), v, (.int .i64 c), (.int .i64 d)] w fun e w' => e = .returned (.int .i64 (cosetI N l c d)) ∧ Below w.heap.size w w' := by
  have H1 := Lib.hid (fun W => l01Mod_any c (N : Int) W (by omega) (by omega))
  have H2 := Lib.hid (fun W => l01Mod_any d (N : Int) W (by omega) (by omega))
  have HM := Lib.hid (fun W => l06Normal_any N (c % N) (d % N) W n0 (by omega) (modB n0) (modB n0))
  rw [nrmV_yes hp] at HM
  unfold cosetI
  have H := Lib.hid h
  obtain ⟨A, cap, rfl, hcap, hmax, -⟩ := own_view h.out
  unfold maxLen at hmax
  clear h hp
  generalize c % (N : Int) = c' at *
  generalize d % (N : Int) = d' at *
  generalize normal (N : Int) c' d' = p at *
  have HP := Lib.hid (fun q => @p2_eq p q)
  obtain ⟨R, hR⟩ : ∃ R, findI p l 0 = R := ⟨_, rfl⟩
  have HR := Lib.hid hR
  rw [hR]
  clear hR
  have HH := Lib.hid (fun k hk hb h => @findI_step p l k hk hb h)
  have HN := Lib.hid (@findI_end p l)
  rw [HR.out] at HN
  obtain ⟨x, y⟩ := p
  simp only at HP HM
  go_enter Try.func38, Try.ntmps38
  go_wp2_with fail
  refine (H1.out _).mono ?_; rintro e w' ⟨rfl, rfl⟩
  go_wp2_with fail
  refine (H2.out _).mono ?_; rintro e w' ⟨rfl, rfl⟩
  go_wp2_with fail
  refine (HM.out _).mono ?_; rintro e w1 ⟨rfl, hb1⟩
  go_wp2_with fail
  go_loopw [12] (fun i wr => ∃ k : Nat, i = (.int .i64 ((k : Int))) ∧ k ≤ l.length ∧ Hid (∀ j (hj : j < l.length), j < k → l[j] ≠ ⟨x, y⟩) ∧ Below w.heap.size w wr) (fun i _ => l.length - (intOf i).toNat)
  case atStart => exact ⟨0, rfl, Nat.zero_le _, Lib.hid (fun j _ hj => by omega), hb1⟩
  case round =>
    obtain ⟨k, rfl, hk, HB, hb⟩ := hrel
    by_cases hlt : k < l.length
    · have G := Lib.hid (H.out.below hb)
      obtain ⟨u, hu, ho⟩ := G.out.at_ hlt
      rw [show lenX (lineXs l) k = 2 by unfold lenX; rw [lineXs_at hlt]; rfl, show intX (lineXs l) k = [.int .i64 l[k].x, .int .i64 l[k].y] by unfold intX; rw [lineXs_at hlt]; rfl] at ho
      obtain ⟨A1, c1, rfl, q1, q2, R1⟩ := own_view ho
      obtain ⟨b1, rfl, -, -, hc1, -⟩ := R1 (by omega)
      obtain ⟨b, rfl, -, hl1, hc, -⟩ := (own_at G.out.out) (by omega)
      have h1 := hc k _ hu
      have h2 := hc1 0 _ rfl
      have h3 := hc1 1 _ rfl
      have HE := Lib.hid (HP.out l[k])
      have HHk := Lib.hid (fun hb h => HH.out k hlt hb h)
      have HBn := Lib.hid (show l[k] ≠ ⟨x, y⟩ → ∀ j (hj : j < l.length), j < k + 1 → l[j] ≠ ⟨x, y⟩ from fun hne j hj hjk => by
        by_cases e : j = k
        · subst e; exact hne
        · exact HB.out j hj (by omega))
      unfold maxLen at q2
      clear hc hc1 hu ho R1
      generalize l[k] = q at *
      obtain ⟨qx, qy⟩ := q
      simp only at h1 h2 h3 HE
      by_cases hx : qx = x
      · subst hx
        have hE1 : (qx == qx) = true := by simp
        by_cases hy : qy = y
        · subst hy
          have hE2 : (qy == qy) = true := by simp
          have HV := Lib.hid (HHk.out HB.out rfl)
          rw [HR.out] at HV
          go_wp2_with fail
          go_ret
          exact ⟨ret_int HV.out.symm, hb⟩
        · have hE2 : (qy == y) = false := by simp [hy]
          have HE2 := Lib.hid (HBn.out (fun e => hy (by injection e)))
          clear hy
          go_wp2_with fail
          go_roundw
          case rel => exact ⟨k + 1, by go_num, by omega, HE2, hb⟩
          case measure => simp [intOf]; omega
      · have hE1 : (qx == x) = false := by simp [hx]
        have HE2 := Lib.hid (HBn.out (fun e => hx (by injection e)))
        clear hx
        go_wp2_with fail
        go_roundw
        case rel => exact ⟨k + 1, by go_num, by omega, HE2, hb⟩
        case measure => simp [intOf]; omega
    · obtain rfl : k = l.length := by omega
      have HV := Lib.hid (HN.out HB.out)
      go_wp2_with fail
      go_ret
      exact ⟨ret_int HV.out.symm, hb⟩
end Go.Proofs.Ytjkemnnkgihefaa
