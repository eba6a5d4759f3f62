/- Contracts: the sums of all numbers with k; the law. -/
import Derived.Test.YtkhlgphmimddhaaC40
import Derived.Test.YtkhlgphmimddhaaR2
import Derived.Test.YtkhlgphmimddhaaN21
namespace Go.Proofs.Ytkhlgphmimddhaa
open Go.RowKit
theorem elF : Elem Try.prog 39 23 (.agg #[.int .i64 0, .int .i64 0]) 2 16 := elem_of Try.underlying39 (by kernel_rfl) rfl (by omega) (by omega)
/-- The sums of some numbers with k, one behind the other. -/
def sumsL (k : Int) (l : List Int) : List Int := l.flatMap fun h => [fx (lZ h k) (12 * k), fy (lZ h k) (12 * k)]
theorem sumsL_snoc (k : Int) (l : List Int) (x : Int) : sumsL k (l ++ [x]) = sumsL k l ++ [fx (lZ x k) (12 * k), fy (lZ x k) (12 * k)] := by simp [sumsL]
theorem sumsL_len (k : Int) (l : List Int) : (sumsL k l).length = l.length * 2 := by
  induction l with
  | nil => rfl
  | cons x l ih => simp only [sumsL, List.flatMap_cons, List.length_append, List.length_cons] at *; simp at *; omega
theorem getD_mem {l : List Int} {j : Nat} (h : j < l.length) : l.getD j 0 ∈ l := by
  rw [List.getD, List.getElem?_eq_getElem h]; exact List.getElem_mem h
structure RowRes where
  xs : List Int
  n : Nat
  c : Int
def sumsRes (k : Int) : RowRes := if inB k 1 100 = true then ⟨sumsL k (unitsL k k.toNat), (unitsL k k.toNat).length, 0⟩ else ⟨[], 0, 2⟩
theorem sumsRes_len (k : Int) : (sumsRes k).xs.length = (sumsRes k).n * 2 := by
  unfold sumsRes; split
  · exact sumsL_len _ _
  · rfl
set_option maxRecDepth 100000 in
set_option maxHeartbeats 1000000 in
theorem SumsOf_any (k : Int) (w : World) :
    Calls Try.prog 30 #[(.int .i64 k)] w fun e w' => ∃ v, e = .returned (.tuple #[v, (.int .i64 ((sumsRes k).c))]) ∧ w'.ownsRow w.heap.size 23 2 v (sumsRes k).n (ints (sumsRes k).xs) ∧ Below w.heap.size w w' := by
  have HW := Lib.hid (fun W => within_any k 1 100 W)
  cases hk : inB k 1 100
  · rw [show sumsRes k = ⟨[], 0, 2⟩ by simp [sumsRes, hk]]
    rw [hk] at HW
    go_enter Try.func30, Try.ntmps30
    go_wp2_with fail
    refine (HW.out _).mono ?_; rintro e w' ⟨rfl, rfl⟩
    go_wp2_with fail
    go_ret2
    exact ⟨_, rfl, World.ownsRow_nil _ _ _ _, Below.refl _ _⟩
  · rw [show sumsRes k = ⟨sumsL k (unitsL k k.toNat), (unitsL k k.toNat).length, 0⟩ by simp [sumsRes, hk]]
    obtain ⟨k0, k1⟩ := inB_iff.1 hk
    rw [hk] at HW
    clear hk
    obtain ⟨K, rfl⟩ := Int.eq_ofNat_of_zero_le (show 0 ≤ k by omega)
    rw [Int.toNat_natCast]
    have hul := unitsL_len (K : Int) K
    have HU := Lib.hid (fun W => units_any K W (by omega))
    have HF := Lib.hid (fun h W => sumOf_any h (K : Int) W k0 (by omega))
    have HG := Lib.hid (@uGcd (K : Int) K)
    generalize unitsL (K : Int) K = U at *
    go_enter Try.func30, Try.ntmps30
    go_wp2_with fail
    refine (HW.out _).mono ?_; rintro e w' ⟨rfl, rfl⟩
    go_wp2_with fail
    refine (HU.out _).mono ?_; rintro e w1 ⟨v, rfl, hown, hb1⟩
    have hs1 := hb1.size
    obtain ⟨A, cap, rfl, hcap, hmax, hat⟩ := own_view hown
    unfold maxLen at hmax
    have H0 := Lib.hid (own_below (World.ownsRow_lit (e := 23) (size := 2) w #[] 0 (Nat.le_refl _) (by simp [maxLen]) rfl) hb1)
    have hB1 : Below w.heap.size w w1 := bfin (by go_grown) hb1
    have hsw : w.heap.size ≤ w1.heap.size := hB1.size
    clear hown
    go_wp2_with fail
    go_loopw [4, 14] (fun v i wr => ∃ j : Nat, i = (.int .i64 ((j : Int))) ∧ j ≤ U.length ∧ Hid (wr.ownsRow w.heap.size 23 2 v j (ints (sumsL K (U.take j)))) ∧ Below w.heap.size w wr ∧ Lies w.heap.size w1 v wr) (fun _ i _ => U.length - (intOf i).toNat)
    case atStart => exact ⟨0, rfl, Nat.zero_le _, Lib.hid H0.out, hB1, Lies.start _ _ _ _⟩
    case round =>
      obtain ⟨j, rfl, hj, HO, hb, hbw⟩ := hrel
      have hsz := hb.size
      by_cases hlt : j < U.length
      · obtain ⟨b, rfl, -, hbl, hc, -⟩ := (hat.lies hbw (by simp)) (by omega)
        have hcj := hc j _ (ints_at hlt)
        have HS := Lib.hid (take_snocI U hlt)
        have HX := Lib.hid (sumsL_snoc (K : Int) (U.take j) (U.getD j 0))
        rw [← HS.out] at HX
        obtain ⟨s1, s2⟩ := sum_same (h := U.getD j 0) (show 0 < (K : Int) by omega) (by exact_mod_cast HG.out _ (getD_mem hlt))
        have HFx := Lib.hid (HF.out (U.getD j 0))
        rw [s1, s2] at HFx
        clear s1 s2 hc hat HS
        generalize U.getD j 0 = x at *
        generalize fx (lZ x (K : Int)) (12 * (K : Int)) = X at *
        generalize fy (lZ x (K : Int)) (12 * (K : Int)) = Y at *
        go_wp2_with fail
        refine (HFx.out _).mono ?_; rintro e w2 ⟨rfl, hb2⟩
        go_wp2_with (at_builtin; refine app_one elF rfl _ _ rfl rfl rfl (by simp) (own_below HO.out hb2) (hb.trans (hb2.mono hsz)) rfl (by intro u hu; simp at hu; first | (subst hu; rfl) | (rcases hu with rfl | rfl <;> rfl) | (rcases hu with rfl | rfl | rfl <;> rfl) | (rcases hu with rfl | rfl | rfl | rfl <;> rfl)) (Nat.le_trans hsz hb2.size) (by omega) ?_; intro v' w3 hown3 hb3 hg3; have HO3 := Lib.hid hown3; clear hown3)
        have hbw3 := (hbw.below hb2).app hg3
        clear hg3
        go_wp2_with fail
        go_roundw
        case rel => exact ⟨j + 1, by go_num, by omega, Lib.hid (by rw [HX.out]; simpa [ints] using HO3.out), hb3, hbw3⟩
        case measure => simp [intOf]; omega
      · obtain rfl : j = U.length := by omega
        have HT := Lib.hid (show U.take U.length = U from List.take_length)
        go_wp2_with fail
        go_ret2
        exact ⟨_, rfl, by have := HO.out; rwa [HT.out] at this, hb⟩
set_option maxRecDepth 100000 in
set_option maxHeartbeats 1000000 in
theorem sSumsOf_any (k : Int) (w : World) :
    Calls Try.prog 29 #[(.int .i64 k)] w fun e w' => ∃ v, e = .returned (.tuple #[v, (.int .i64 ((sumsRes k).c))]) ∧ w'.ownsRow w.heap.size 23 2 v (sumsRes k).n (ints (sumsRes k).xs) ∧ Below w.heap.size w w' := by
  have HW := Lib.hid (fun W => l01In_any k 1 100 W)
  cases hk : inB k 1 100
  · rw [show sumsRes k = ⟨[], 0, 2⟩ by simp [sumsRes, hk]]
    rw [hk] at HW
    go_enter Try.func29, Try.ntmps29
    go_wp2_with fail
    refine (HW.out _).mono ?_; rintro e w' ⟨rfl, rfl⟩
    go_wp2_with fail
    go_ret2
    exact ⟨_, rfl, World.ownsRow_nil _ _ _ _, Below.refl _ _⟩
  · rw [show sumsRes k = ⟨sumsL k (unitsL k k.toNat), (unitsL k k.toNat).length, 0⟩ by simp [sumsRes, hk]]
    obtain ⟨k0, k1⟩ := inB_iff.1 hk
    rw [hk] at HW
    clear hk
    obtain ⟨K, rfl⟩ := Int.eq_ofNat_of_zero_le (show 0 ≤ k by omega)
    rw [Int.toNat_natCast]
    go_enter Try.func29, Try.ntmps29
    go_wp2_with fail
    refine (HW.out _).mono ?_; rintro e w' ⟨rfl, rfl⟩
    go_wp2_with fail
    go_loopw [4, 5] (fun v i wr => ∃ m : Nat, i = (.int .i64 ((m : Int) + 1)) ∧ m ≤ K ∧ Hid (wr.ownsRow w.heap.size 23 2 v (unitsL K m).length (ints (sumsL K (unitsL K m)))) ∧ Below w.heap.size w wr) (fun _ i _ => K + 1 - (intOf i).toNat)
    case atStart => exact ⟨0, by go_num, Nat.zero_le _, Lib.hid (World.ownsRow_lit w #[] 0 (Nat.le_refl _) (by simp [maxLen]) rfl), by go_grown⟩
    case round =>
      obtain ⟨m, rfl, hm, HO, hb⟩ := hrel
      have hsz := hb.size
      have hul := unitsL_len (K : Int) m
      by_cases hlt : m < K
      · by_cases hg : (Int.gcd ((m : Int) + 1) K : Int) = 1
        · have HG := Lib.hid (fun W => l01Gcd_any ((m : Int) + 1) K W (by omega) (by omega) (by omega) (by omega))
          have HU := Lib.hid (unitsL_yes hg)
          have HX := Lib.hid (sumsL_snoc (K : Int) (unitsL K m) ((m : Int) + 1))
          rw [← HU.out] at HX
          have hg' : Int.gcd ((m : Int) + 1) K = 1 := by exact_mod_cast hg
          have hl := lZ_bd k0 (by omega) hg'
          have HL := Lib.hid (fun W => l07Sum_all _ ((m : Int) + 1) (K : Int) W (Nat.le_refl _) k0 (by omega) hg')
          have HR := Lib.hid (fun W => l01Reduced_any (lZ ((m : Int) + 1) K) (12 * K) W (by omega) (by omega) (by omega) (by omega))
          rw [hg] at HG
          have HUl := Lib.hid (show (unitsL (K : Int) (m + 1)).length = (unitsL (K : Int) m).length + 1 by rw [HU.out]; simp)
          clear hg HU hg' hl
          generalize fx (lZ ((m : Int) + 1) (K : Int)) (12 * K) = X at *
          generalize fy (lZ ((m : Int) + 1) (K : Int)) (12 * K) = Y at *
          generalize lZ ((m : Int) + 1) (K : Int) = F at *
          go_wp2_with fail
          refine (HG.out _).mono ?_; rintro e w2 ⟨rfl, hb2⟩
          go_wp2_with fail
          refine (HL.out _).mono ?_; rintro e w' ⟨rfl, rfl⟩
          go_wp2_with fail
          refine (HR.out _).mono ?_; rintro e w3 ⟨rfl, hb3⟩
          have hsz3 := Nat.le_trans hb2.size hb3.size
          go_wp2_with (at_builtin; refine app_one elF rfl _ _ rfl rfl rfl (by simp) (own_below (own_below HO.out hb2) hb3) ((hb.trans (hb2.mono hsz)).trans (hb3.mono (Nat.le_trans hsz hb2.size))) rfl (by intro u hu; simp at hu; first | (subst hu; rfl) | (rcases hu with rfl | rfl <;> rfl) | (rcases hu with rfl | rfl | rfl <;> rfl) | (rcases hu with rfl | rfl | rfl | rfl <;> rfl)) (Nat.le_trans hsz hsz3) (by omega) ?_; intro v' w4 hown4 hb4 hg4; have HO4 := Lib.hid hown4; clear hown4 hg4)
          go_roundw
          case rel => exact ⟨m + 1, by go_num, by omega, Lib.hid (by rw [HX.out, HUl.out]; simpa [ints] using HO4.out), hb4⟩
          case measure => simp [intOf]; omega
        · have HG := Lib.hid (fun W => l01Gcd_any ((m : Int) + 1) K W (by omega) (by omega) (by omega) (by omega))
          have HU := Lib.hid (unitsL_no hg)
          generalize (Int.gcd ((m : Int) + 1) K : Int) = g at *
          go_wp2_with fail
          refine (HG.out _).mono ?_; rintro e w2 ⟨rfl, hb2⟩
          go_wp2_with fail
          go_roundw
          case rel => exact ⟨m + 1, by go_num, by omega, Lib.hid (by rw [HU.out]; exact own_below HO.out hb2), hb.trans (hb2.mono hsz)⟩
          case measure => simp [intOf]; omega
      · obtain rfl : m = K := by omega
        go_wp2_with fail
        go_ret2
        exact ⟨_, rfl, HO.out, hb⟩
theorem sumsRes_n (k : Int) : (sumsRes k).n ≤ 1000000 := by
  unfold sumsRes
  split
  · rename_i h
    have := inB_iff.1 h
    have := unitsL_len k k.toNat
    simp only; omega
  · simp
set_option maxRecDepth 100000 in
set_option maxHeartbeats 1000000 in
theorem lawFnExactSumsOf (k : Int) (_ : I64 k) (w : World) :
    Calls Try.prog 9 #[(.int .i64 k)] w fun e w' => e = .returned (.bool true) ∧ Below w.heap.size w w' := by
  have HS := Lib.hid (sSumsOf_any k)
  have HI := Lib.hid (SumsOf_any k)
  have HN := Lib.hid (sumsRes_len k)
  have hn := sumsRes_n k
  generalize sumsRes k = R at HS HI HN hn
  obtain ⟨xs, n, c⟩ := R
  have hn : n ≤ 1000000 := hn
  go_enter Try.func9, Try.ntmps9
  have hn2 : (c != c) = false := by simp
  have hml : n ≤ maxLen := by unfold maxLen; omega
  go_wp2_with fail
  refine (HS.out _).mono ?_; rintro e w1 ⟨v0, rfl, ho0, hb1⟩
  obtain ⟨A0, cap0, rfl, -, -, hat0⟩ := own_view ho0
  have hu0 := Lib.hid (own_under ho0)
  have R0 := Lib.hid hat0
  clear ho0 hat0
  go_wp2_with fail
  refine (HI.out _).mono ?_; rintro e w2 ⟨v1, rfl, ho1, hb2⟩
  obtain ⟨A1, cap1, rfl, -, -, hat1⟩ := own_view ho1
  have O1 := Lib.hid ho1
  have R1 := Lib.hid hat1
  clear ho1 hat1
  have R0' := Lib.hid (R0.out.below hb2)
  go_wp2_with fail
  refine (eqFractionS_same A1 A0 n cap1 cap0 _ _ xs w2 HN.out hml R1.out R0'.out).mono ?_; rintro e w3 ⟨rfl, hb3⟩
  have O3 := Lib.hid (own_below O1.out hb3)
  have R03 := Lib.hid (R0'.out.below hb3)
  have hB2 := hb1.trans (hb2.mono hb1.size)
  have hB3 := hB2.trans (hb3.mono hB2.size)
  have hN := HN.out
  have M := Lib.hid (markFractionS_any (.slice A1 n cap1) n w1.heap.size 23 xs 1 w3 hN (by omega) (by omega) O3.out)
  clear hN
  go_wp2_with fail
  refine (M.out).mono ?_; rintro e w4 ⟨rfl, ho4, hg4⟩
  have hB4 := below_mark hB3 O3.out hg4 hb1.size
  have R04 := Lib.hid (R03.out.far O3.out hg4 hu0.out)
  have O4 := Lib.hid ho4
  clear ho4 hg4 M
  have hm0 : ¬ ((1 : Int) + ((n : Nat) : Int) * 2 < 0) := by omega
  have hm1 : ((1 : Int) + ((n : Nat) : Int) * 2 != 1 + ((n : Nat) : Int) * 2) = false := by simp
  go_wp2_with fail
  refine (heldFractionS_any A1 n cap1 _ 1 w4 hml (by omega) (by omega) (own_at O4.out)).mono ?_; rintro e w5 ⟨rfl, hb5⟩
  have hB5 := hB4.trans (hb5.mono hB4.size)
  have O5 := Lib.hid (own_below O4.out hb5)
  have R05 := Lib.hid (R04.out.below hb5)
  go_wp2_with fail
  refine (HI.out _).mono ?_; rintro e w6 ⟨v2, rfl, ho6, hb6⟩
  obtain ⟨A2, cap2, rfl, -, -, hat6⟩ := own_view ho6
  have R6 := Lib.hid hat6
  clear ho6 hat6
  have hB6 := hB5.trans (hb6.mono hB5.size)
  have O6 := Lib.hid (own_below O5.out hb6)
  have R06 := Lib.hid (R05.out.below hb6)
  go_wp2_with fail
  refine (eqFractionS_same A2 A0 n cap2 cap0 _ _ xs w6 HN.out hml R6.out R06.out).mono ?_; rintro e w7 ⟨rfl, hb7⟩
  have hB7 := hB6.trans (hb7.mono hB6.size)
  have O7 := Lib.hid (own_below O6.out hb7)
  go_wp2_with fail
  refine (heldFractionS_any A1 n cap1 _ 1 w7 hml (by omega) (by omega) (own_at O7.out)).mono ?_; rintro e w8 ⟨rfl, hb8⟩
  have hB8 := hB7.trans (hb8.mono hB7.size)
  go_wp2_with fail
  go_ret
  exact ⟨rfl, hB8⟩
end Go.Proofs.Ytkhlgphmimddhaa
