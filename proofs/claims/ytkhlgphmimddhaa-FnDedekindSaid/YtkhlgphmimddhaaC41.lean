/- Contracts: the sum of all squares; the law. -/
import Derived.Test.YtkhlgphmimddhaaC40
import Derived.Test.YtkhlgphmimddhaaN21
namespace Go.Proofs.Ytkhlgphmimddhaa
open Go.RowKit
def totRes (k : Int) : (Int × Int) × Int := if inB k 1 12 = true then ((fx (sqL k (unitsL k k.toNat)) (144 * k * k), fy (sqL k (unitsL k k.toNat)) (144 * k * k)), 0) else ((0, 0), 2)
theorem tot_same {k : Int} (hk : 0 < k) (m : Nat) : fx (sqF k (unitsL k m)) (16 * k * k * k * k) = fx (sqL k (unitsL k m)) (144 * k * k) ∧ fy (sqF k (unitsL k m)) (16 * k * k * k * k) = fy (sqL k (unitsL k m)) (144 * k * k) := by
  have e := sq_rel hk (unitsL k m) uGcd
  have hkk : 0 < k * k := Int.mul_pos hk hk
  rw [← fx_scale (m := 9) (by omega), ← fy_scale (m := 9) (by omega), e, show 9 * (16 * k * k * k * k) = k * k * (144 * k * k) by grind]
  exact ⟨fx_scale hkk, fy_scale hkk⟩
structure PowBd (k : Int) : Prop where
  a0 : 16 ≤ 16 * k
  a1 : 16 * k ≤ 192
  b0 : 16 ≤ 16 * k * k
  b1 : 16 * k * k ≤ 2304
  c0 : 16 ≤ 16 * k * k * k
  c1 : 16 * k * k * k ≤ 27648
  d0 : 16 ≤ 16 * k * k * k * k
  d1 : 16 * k * k * k * k ≤ 331776
  e0 : 144 ≤ 144 * k
  e1 : 144 * k ≤ 1728
  g0 : 144 ≤ 144 * k * k
  g1 : 144 * k * k ≤ 20736
theorem powBd {k : Int} (k0 : 1 ≤ k) (k1 : k ≤ 12) : PowBd k := by
  rcases (show k = 1 ∨ k = 2 ∨ k = 3 ∨ k = 4 ∨ k = 5 ∨ k = 6 ∨ k = 7 ∨ k = 8 ∨ k = 9 ∨ k = 10 ∨ k = 11 ∨ k = 12 by omega) with rfl | rfl | rfl | rfl | rfl | rfl | rfl | rfl | rfl | rfl | rfl | rfl <;> constructor <;> decide
set_option maxRecDepth 100000 in
set_option maxHeartbeats 1000000 in
theorem TotalOf_any (k : Int) (w : World) :
    Calls Try.prog 18 #[(.int .i64 k)] w fun e w' => e = .returned (.tuple #[(.agg #[.int .i64 ((totRes k).1.1), .int .i64 ((totRes k).1.2)]), (.int .i64 ((totRes k).2))]) ∧ Below w.heap.size w w' := by
  cases hk : inB k 1 12
  · rw [show totRes k = ((0, 0), 2) by simp [totRes, hk]]
    have HW := Lib.hid (fun W => within_any k 1 12 W)
    rw [hk] at HW
    go_enter Try.func18, Try.ntmps18
    go_wp2_with fail
    refine (HW.out _).mono ?_; rintro e w' ⟨rfl, rfl⟩
    go_wp2_with fail
    refine bodyPost_ret (v := .tuple #[(.agg #[.int .i64 0, .int .i64 0]), (.int .i64 2)]) (by simp [results, Try.results18, go_sem] <;> rfl) rfl ⟨rfl, by go_grown⟩
  · obtain ⟨k0, k1⟩ := inB_iff.1 hk
    rw [show totRes k = ((fx (sqL k (unitsL k k.toNat)) (144 * k * k), fy (sqL k (unitsL k k.toNat)) (144 * k * k)), 0) by simp [totRes, hk]]
    obtain ⟨a0, a1, b0, b1, c0, c1, d0, d1, -, -, -, -⟩ := powBd k0 k1
    have HT := Lib.hid (tot_same (show 0 < k by omega) k.toNat)
    have HW := Lib.hid (fun W => within_any k 1 12 W)
    rw [hk] at HW
    clear hk
    obtain ⟨K, rfl⟩ := Int.eq_ofNat_of_zero_le (show 0 ≤ k by omega)
    rw [Int.toNat_natCast] at HT ⊢
    have hul := unitsL_len (K : Int) K
    have HU := Lib.hid (fun W => units_any K W (by omega))
    have HB := Lib.hid (fun l => sqF_bd (k := (K : Int)) k0 k1 l)
    have HF := Lib.hid (fun h W => fourTimes_any h (K : Int) W k0 (by omega))
    have HFB := Lib.hid (fun h => fourZ_12 (h := h) (k := (K : Int)) k0 k1)
    rw [← HT.out.1, ← HT.out.2]
    clear HT
    have hq := HB.out (unitsL (K : Int) K)
    have HR := Lib.hid (fun W => reduced_any (sqF (K : Int) (unitsL (K : Int) K)) (16 * K * K * K * K) W (by omega) (by omega) (by omega) (by omega))
    clear hq
    generalize fx (sqF (K : Int) (unitsL (K : Int) K)) (16 * K * K * K * K) = X at *
    generalize fy (sqF (K : Int) (unitsL (K : Int) K)) (16 * K * K * K * K) = Y at *
    generalize unitsL (K : Int) K = U at *
    go_enter Try.func18, Try.ntmps18
    go_wp2_with fail
    refine (HW.out _).mono ?_; rintro e w' ⟨rfl, rfl⟩
    go_wp2_with fail
    refine (HU.out _).mono ?_; rintro e w1 ⟨v, rfl, hown, hb1⟩
    have hs1 := hb1.size
    have hz0 : w.heap.size < w1.heap.size := by simp at hs1; omega
    obtain ⟨A, cap, rfl, hcap, hmax, hat⟩ := own_view hown
    unfold maxLen at hmax
    obtain ⟨hc1, hf1⟩ := bcell hb1
    have hB1 : Below w.heap.size w w1 := bfin (by go_grown) hb1
    clear hown
    go_wp2_with fail
    go_loop [4, 15] (fun s i => ∃ j : Nat, s = (.int .i64 (sqF (K : Int) (U.take j))) ∧ i = (.int .i64 ((j : Int))) ∧ j ≤ U.length) (fun _ i => U.length - (intOf i).toNat)
    case atStart => exact ⟨0, by simp [sqF], rfl, Nat.zero_le _⟩
    case round =>
      obtain ⟨j, rfl, rfl, hj⟩ := hrel
      have hq := HB.out (U.take j)
      have hq2 : (U.take j).length ≤ j := by simp; omega
      obtain ⟨q0, q1⟩ := hq
      by_cases hlt : j < U.length
      · obtain ⟨b, rfl, -, hbl, hc, -⟩ := hat (by omega)
        have hcj := hc j _ (ints_at hlt)
        have HS := Lib.hid (take_snocI U hlt)
        have HX := Lib.hid (sqF_snoc (K : Int) (U.take j) (U.getD j 0))
        have hf := HFB.out (U.getD j 0)
        have hF := HF.out (U.getD j 0)
        rw [← HS.out] at HX
        have HFx := Lib.hid hF
        clear hF hc hat HS
        generalize U.getD j 0 = x at *
        generalize fourZ x (K : Int) = F at *
        have hm := mul_bd (a := F) (b := F) (A := 2000) (B := 2000) (by omega) (by omega) (by omega) (by omega)
        obtain ⟨f0, f1⟩ := hf
        obtain ⟨m0, m1⟩ := hm
        generalize sqF (K : Int) (U.take j) = s at *
        generalize (U.take j).length = lj at *
        go_wp2_with fail
        refine (HFx.out _).mono ?_; rintro e w' ⟨rfl, rfl⟩
        go_wp2_with fail
        go_round
        case rel => exact ⟨j + 1, by rw [HX.out], by go_num, by omega⟩
        case measure => simp [intOf]; omega
      · obtain rfl : j = U.length := by omega
        rw [List.take_length] at q0 q1 ⊢
        generalize sqF (K : Int) U = s at *
        clear hat hq2
        have hB1 : Below w.heap.size w w1 := bfin (by go_grown) hb1
        go_wp2_with fail
        refine (HR.out _).mono ?_; rintro e w2 ⟨rfl, hb2⟩
        obtain ⟨hc2, hf2⟩ := bcell hb2
        have hz2_0 : w.heap.size < w2.heap.size := by have := hb2.size; (try simp at this); omega
        have hB2 : Below w.heap.size w w2 := bfin (by go_grown) hb2
        go_wp2_with fail
        have hall := And.intro hc1 (And.intro hc2 (And.intro hz0 (hz2_0)))
        refine bodyPost_ret (v := .tuple #[(.agg #[.int .i64 X, .int .i64 Y]), (.int .i64 0)]) (by first | (simp [results, Try.results18, go_sem]; done) | (simp [results, Try.results18, go_sem, hall] <;> rfl)) rfl ⟨rfl, by go_grown⟩
set_option maxRecDepth 100000 in
set_option maxHeartbeats 1000000 in
theorem sTotalOf_any (k : Int) (w : World) :
    Calls Try.prog 17 #[(.int .i64 k)] w fun e w' => e = .returned (.tuple #[(.agg #[.int .i64 ((totRes k).1.1), .int .i64 ((totRes k).1.2)]), (.int .i64 ((totRes k).2))]) ∧ Below w.heap.size w w' := by
  cases hk : inB k 1 12
  · rw [show totRes k = ((0, 0), 2) by simp [totRes, hk]]
    have HW := Lib.hid (fun W => l01In_any k 1 12 W)
    rw [hk] at HW
    go_enter Try.func17, Try.ntmps17
    go_wp2_with fail
    refine (HW.out _).mono ?_; rintro e w' ⟨rfl, rfl⟩
    go_wp2_with fail
    refine bodyPost_ret (v := .tuple #[(.agg #[.int .i64 0, .int .i64 0]), (.int .i64 2)]) (by simp [results, Try.results17, go_sem] <;> rfl) rfl ⟨rfl, by go_grown⟩
  · obtain ⟨k0, k1⟩ := inB_iff.1 hk
    rw [show totRes k = ((fx (sqL k (unitsL k k.toNat)) (144 * k * k), fy (sqL k (unitsL k k.toNat)) (144 * k * k)), 0) by simp [totRes, hk]]
    obtain ⟨-, -, -, -, -, -, -, -, e0, e1, g0, g1⟩ := powBd k0 k1
    have HW := Lib.hid (fun W => l01In_any k 1 12 W)
    rw [hk] at HW
    clear hk
    obtain ⟨K, rfl⟩ := Int.eq_ofNat_of_zero_le (show 0 ≤ k by omega)
    rw [Int.toNat_natCast]
    have HB := Lib.hid (fun m => sqL_bd (k := (K : Int)) k0 k1 (unitsL K m) uGcd)
    have HF := Lib.hid (fun h hg W => l07Sum_all _ h (K : Int) W (Nat.le_refl _) k0 (by omega) hg)
    have HFB := Lib.hid (fun h => lZ_12 (h := h) (k := (K : Int)) k0 k1)
    have hq := HB.out K
    have hul := unitsL_len (K : Int) K
    have HR := Lib.hid (fun W => l01Reduced_any (sqL (K : Int) (unitsL (K : Int) K)) (144 * K * K) W (by omega) (by omega) (by omega) (by omega))
    clear hq hul
    generalize fx (sqL (K : Int) (unitsL (K : Int) K)) (144 * K * K) = X at *
    generalize fy (sqL (K : Int) (unitsL (K : Int) K)) (144 * K * K) = Y at *
    go_enter Try.func17, Try.ntmps17
    go_wp2_with fail
    refine (HW.out _).mono ?_; rintro e w' ⟨rfl, rfl⟩
    go_wp2_with fail
    go_loopw [4, 5] (fun s i wr => ∃ m : Nat, s = (.int .i64 (sqL (K : Int) (unitsL K m))) ∧ i = (.int .i64 ((m : Int) + 1)) ∧ m ≤ K ∧ Below (w.alloc (.cells #[.int .i64 0, .int .i64 0] 23)).heap.size (w.alloc (.cells #[.int .i64 0, .int .i64 0] 23)) wr) (fun _ i _ => K + 1 - (intOf i).toNat)
    case atStart => exact ⟨0, by simp [sqL, unitsL], by go_num, Nat.zero_le _, Below.refl _ _⟩
    case round =>
      obtain ⟨m, rfl, rfl, hm, hb1⟩ := hrel
      have hq := HB.out m
      have hul := unitsL_len (K : Int) m
      obtain ⟨q0, q1⟩ := hq
      have hs1 := hb1.size
      have hz0 : w.heap.size < wr.heap.size := by simp at hs1; omega
      by_cases hlt : m < K
      · by_cases hg : (Int.gcd ((m : Int) + 1) K : Int) = 1
        · have HG := Lib.hid (fun W => l01Gcd_any ((m : Int) + 1) K W (by omega) (by omega) (by omega) (by omega))
          have HU := Lib.hid (unitsL_yes hg)
          have hl := HFB.out ((m : Int) + 1) (by exact_mod_cast hg)
          have HL := Lib.hid (HF.out ((m : Int) + 1) (by exact_mod_cast hg))
          have HX := Lib.hid (sqL_snoc (K : Int) (unitsL K m) ((m : Int) + 1))
          rw [← HU.out] at HX
          rw [hg] at HG
          clear hg HU
          generalize lZ ((m : Int) + 1) (K : Int) = F at *
          have hmm := mul_bd (a := F) (b := F) (A := 6000) (B := 6000) (by omega) (by omega) (by omega) (by omega)
          obtain ⟨f0, f1⟩ := hl
          obtain ⟨m0, m1⟩ := hmm
          generalize sqL (K : Int) (unitsL K m) = s at *
          generalize (unitsL (K : Int) m).length = lj at *
          go_wp2_with fail
          refine (HG.out _).mono ?_; rintro e w2 ⟨rfl, hb2⟩
          go_wp2_with fail
          refine (HL.out _).mono ?_; rintro e w' ⟨rfl, rfl⟩
          go_wp2_with fail
          refine (HL.out _).mono ?_; rintro e w' ⟨rfl, rfl⟩
          go_wp2_with fail
          go_roundw
          case rel => exact ⟨m + 1, by rw [HX.out], by go_num, by omega, hb1.trans (hb2.mono hb1.size)⟩
          case measure => simp [intOf]; omega
        · have HG := Lib.hid (fun W => l01Gcd_any ((m : Int) + 1) K W (by omega) (by omega) (by omega) (by omega))
          have HU := Lib.hid (unitsL_no hg)
          generalize (Int.gcd ((m : Int) + 1) K : Int) = g at *
          go_wp2_with fail
          refine (HG.out _).mono ?_; rintro e w2 ⟨rfl, hb2⟩
          go_wp2_with fail
          go_roundw
          case rel => exact ⟨m + 1, by rw [HU.out], by go_num, by omega, hb1.trans (hb2.mono hb1.size)⟩
          case measure => simp [intOf]; omega
      · obtain rfl : m = K := by omega
        generalize sqL (m : Int) (unitsL (m : Int) m) = s at *
        obtain ⟨hc1, hf1⟩ := bcell hb1
        obtain ⟨w1, rfl⟩ : ∃ w1 : World, w1 = wr := ⟨_, rfl⟩
        clear hul hs1
        have hB1 : Below w.heap.size w w1 := bfin (by go_grown) hb1
        go_wp2_with fail
        refine (HR.out _).mono ?_; rintro e w2 ⟨rfl, hb2⟩
        obtain ⟨hc2, hf2⟩ := bcell hb2
        have hz2_0 : w.heap.size < w2.heap.size := by have := hb2.size; (try simp at this); omega
        have hB2 : Below w.heap.size w w2 := bfin (by go_grown) hb2
        go_wp2_with fail
        have hall := And.intro hc1 (And.intro hc2 (And.intro hz0 (hz2_0)))
        refine bodyPost_ret (v := .tuple #[(.agg #[.int .i64 X, .int .i64 Y]), (.int .i64 0)]) (by first | (simp [results, Try.results17, go_sem]; done) | (simp [results, Try.results17, go_sem, hall] <;> rfl)) rfl ⟨rfl, by go_grown⟩
theorem lawFnExactTotalOf (k : Int) (_ : I64 k) (w : World) :
    Calls Try.prog 4 #[(.int .i64 k)] w fun e w' => e = .returned (.bool true) ∧ Below w.heap.size w w' := by
  have HS := Lib.hid (sTotalOf_any k)
  have HI := Lib.hid (TotalOf_any k)
  generalize totRes k = R at HS HI
  obtain ⟨⟨x, y⟩, R2⟩ := R
  have hn2 : (R2 != R2) = false := by simp
  go_enter Try.func4, Try.ntmps4
  go_wp2_with fail
  refine (HS.out _).mono ?_; rintro e w1 ⟨rfl, hb1⟩
  obtain ⟨hc1, hf1⟩ := bcell hb1
  have hs1 := hb1.size
  have hB1 : Below w.heap.size w w1 := bfin (by go_grown) hb1
  go_wp2_with fail
  refine (HI.out _).mono ?_; rintro e w2 ⟨rfl, hb2⟩
  obtain ⟨hc2, hf2⟩ := bcell hb2
  have hz2_0 : w1.heap.size < w2.heap.size := by have := hb2.size; (try simp at this); omega
  have hB2 : Below w.heap.size w w2 := bfin (by go_grown) hb2
  go_wp2_with fail
  refine (eqFraction_same _ _ _).mono ?_; rintro e w3 ⟨rfl, hb3⟩
  obtain ⟨hc3, hf3⟩ := bcell hb3
  have hB3 : Below w.heap.size w w3 := bfin (by go_grown) hb3
  go_wp2_with fail
  go_ret
  exact ⟨rfl, by go_grown⟩
end Go.Proofs.Ytkhlgphmimddhaa
