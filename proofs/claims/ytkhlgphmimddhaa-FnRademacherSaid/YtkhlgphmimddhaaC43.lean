/- Contracts: the numbers with equal sums; the law. -/
import Derived.Test.YtkhlgphmimddhaaC42
namespace Go.Proofs.Ytkhlgphmimddhaa
open Go.RowKit
def eqP (h k i : Int) : Bool := lZ i k == lZ h k
def equalL (h k : Int) (m : Nat) : List Int := (unitsL k m).filter (eqP h k)
def equalRes (h k : Int) : RowRes := if codeOf h k 100 = 0 then ⟨equalL h k k.toNat, (equalL h k k.toNat).length, 0⟩ else ⟨[], 0, codeOf h k 100⟩
theorem equalRes_len (h k : Int) : (equalRes h k).xs.length = (equalRes h k).n := by unfold equalRes; split <;> rfl
theorem equalRes_n (h k : Int) : (equalRes h k).n ≤ 1000000 := by
  unfold equalRes
  split
  · rename_i hc
    obtain ⟨hk2, _⟩ := codeOf_zero hc
    have := (codeB_iff.1 hk2).2
    have h1 := List.length_filter_le (eqP h k) (unitsL k k.toNat)
    have h2 := unitsL_len k k.toNat
    simp only [equalL]; omega
  · simp
/-- Equal fractions have equal numbers over one denominator. -/
theorem fx_inj {a b q : Int} (hq : 0 < q) (h1 : fx a q = fx b q) (h2 : fy a q = fy b q) : a = b := by
  have ga := gcd_pos_right (p := a) hq
  have gb := gcd_pos_right (p := b) hq
  unfold fx at h1
  unfold fy at h2
  have d1 : (Int.gcd a q : Int) * q.tdiv (Int.gcd a q) = q := Int.mul_tdiv_cancel' (Int.gcd_dvd_right a q)
  have d2 : (Int.gcd b q : Int) * q.tdiv (Int.gcd b q) = q := Int.mul_tdiv_cancel' (Int.gcd_dvd_right b q)
  have d3 : (Int.gcd a q : Int) * a.tdiv (Int.gcd a q) = a := Int.mul_tdiv_cancel' (Int.gcd_dvd_left a q)
  have d4 : (Int.gcd b q : Int) * b.tdiv (Int.gcd b q) = b := Int.mul_tdiv_cancel' (Int.gcd_dvd_left b q)
  rw [h2] at d1
  have hne : q.tdiv (Int.gcd b q : Int) ≠ 0 := fun e => by rw [e] at d2; omega
  have hg : (Int.gcd a q : Int) = Int.gcd b q := Int.eq_of_mul_eq_mul_right hne (d1.trans d2.symm)
  rw [← d3, ← d4, h1, hg]
theorem eqP_frac {h k i : Int} (hk : 0 < k) : (fx (lZ i k) (12 * k) == fx (lZ h k) (12 * k) && fy (lZ i k) (12 * k) == fy (lZ h k) (12 * k)) = eqP h k i := by
  rw [Bool.eq_iff_iff]
  unfold eqP
  simp only [Bool.and_eq_true, beq_iff_eq]
  exact ⟨fun ⟨a, b⟩ => fx_inj (by omega) a b, fun e => by rw [e]; exact ⟨rfl, rfl⟩⟩
set_option maxRecDepth 100000 in
theorem eqFrac (a b a' b' : Int) (w : World) : (Op.equalIn 10000 23 (.agg #[.int .i64 a, .int .i64 b]) (.agg #[.int .i64 a', .int .i64 b'])).run Try.prog w = .ok (a == a' && b == b') w :=
  run_equalIn_arr2 Try.underlying23 ⟨_, rfl⟩ Try.underlying2 (by kernel_rfl) (fun x y w => ⟨by kernel_rfl, by kernel_rfl⟩) a b a' b' w
theorem filt_yes {p : Int → Bool} {l : List Int} {x : Int} (h : p x = true) : (l ++ [x]).filter p = l.filter p ++ [x] := by simp [List.filter_append, h]
theorem filt_no {p : Int → Bool} {l : List Int} {x : Int} (h : p x = false) : (l ++ [x]).filter p = l.filter p := by simp [List.filter_append, h]
attribute [local go_sem] eqFrac
set_option maxRecDepth 100000 in
set_option maxHeartbeats 1000000 in
theorem EqualTo_any (h k : Int) (w : World) :
    Calls Try.prog 35 #[(.int .i64 h), (.int .i64 k)] w fun e w' => ∃ v, e = .returned (.tuple #[v, (.int .i64 ((equalRes h k).c))]) ∧ w'.ownsRow w.heap.size 2 1 v (equalRes h k).n (ints (equalRes h k).xs) ∧ Below w.heap.size w w' := by
  have HC := Lib.hid (fun W => sumCode_any h k 100 W (by omega))
  by_cases hc : codeOf h k 100 = 0
  · rw [show equalRes h k = ⟨equalL h k k.toNat, (equalL h k k.toNat).length, 0⟩ by simp [equalRes, hc]]
    obtain ⟨hk2, hg⟩ := codeOf_zero hc
    obtain ⟨k0, k1⟩ := (codeB_iff.1 hk2).2
    have HS := Lib.hid (fun W => sumOf_any h k W k0 (by omega))
    obtain ⟨s1, s2⟩ := sum_same (show 0 < k by omega) (by exact_mod_cast hg : Int.gcd h k = 1)
    rw [s1, s2] at HS
    rw [hc] at HC
    clear hc hk2 hg s1 s2
    obtain ⟨K, rfl⟩ := Int.eq_ofNat_of_zero_le (show 0 ≤ k by omega)
    rw [Int.toNat_natCast]
    have hul := unitsL_len (K : Int) K
    have HU := Lib.hid (fun W => units_any K W (by omega))
    have HF := Lib.hid (fun h W => sumOf_any h (K : Int) W k0 (by omega))
    have HG := Lib.hid (@uGcd (K : Int) K)
    have HE := Lib.hid (fun i => eqP_frac (h := h) (k := (K : Int)) (i := i) (by omega))
    unfold equalL
    generalize unitsL (K : Int) K = U at *
    generalize eqP h (K : Int) = p at *
    generalize fx (lZ h (K : Int)) (12 * (K : Int)) = X at *
    generalize fy (lZ h (K : Int)) (12 * (K : Int)) = Y at *
    go_enter Try.func35, Try.ntmps35
    go_wp2_with fail
    refine (HC.out _).mono ?_; rintro e w1 ⟨rfl, hb1⟩
    go_wp2_with fail
    refine (HS.out _).mono ?_; rintro e w2 ⟨rfl, hb2⟩
    go_wp2_with fail
    refine (HU.out _).mono ?_; rintro e w3 ⟨v, rfl, hown, hb3⟩
    obtain ⟨A, cap, rfl, hcap, hmax, hat⟩ := own_view hown
    unfold maxLen at hmax
    have hs1 := hb1.size
    have hs2 := hb2.size
    have hs3 := hb3.size
    have HH := Lib.hid (heap_below (heap_new (w := w2) (p := .cells #[(.int .i64 X), (.int .i64 Y)] 23)) hb3)
    have H0 := Lib.hid (own_below ((own_below (World.ownsRow_lit (e := 2) (size := 1) w1 #[] 0 hs1 (by simp [maxLen]) rfl) hb2).alloc _) hb3)
    have hB2 : Below w.heap.size w w2 := (hb1.alloc hs1 _).trans (hb2.mono (by simp; omega))
    have hB3 : Below w.heap.size w w3 := (hB2.alloc hB2.size _).trans (hb3.mono (by have := hB2.size; simp; omega))
    have hsw : w.heap.size ≤ w3.heap.size := hB3.size
    simp at hs2 hs3
    clear hown
    go_wp2_with fail
    go_loopw [7, 24] (fun v i wr => ∃ j : Nat, i = (.int .i64 ((j : Int))) ∧ j ≤ U.length ∧ Hid (wr.ownsRow w.heap.size 2 1 v ((U.take j).filter p).length (ints ((U.take j).filter p))) ∧ Below w.heap.size w wr ∧ Lies w1.heap.size w3 v wr) (fun _ i _ => U.length - (intOf i).toNat)
    case atStart => exact ⟨0, rfl, Nat.zero_le _, Lib.hid H0.out, hB3, Lies.start _ _ _ _⟩
    case round =>
      obtain ⟨j, rfl, hj, HO, hb, hbw⟩ := hrel
      have hsz := hb.size
      have hfl := List.length_filter_le p (U.take j)
      have hq2 : (U.take j).length ≤ j := by simp; omega
      by_cases hlt : j < U.length
      · obtain ⟨b, rfl, -, hbl, hc, -⟩ := (hat.lies hbw (by simp; omega)) (by omega)
        have hh := hbw.heap HH.out (by omega)
        have hbl2 := lt_of_blk hh
        have hX : wr.cell? ⟨w2.heap.size, 0, none⟩ = some (.int .i64 X) := cell_of_blk hh 0
        have hY : wr.cell? ⟨w2.heap.size, 1, none⟩ = some (.int .i64 Y) := cell_of_blk hh 1
        have hcj := hc j _ (ints_at hlt)
        have HS := Lib.hid (take_snocI U hlt)
        have HEx := Lib.hid (HE.out (U.getD j 0))
        have HY := Lib.hid (@filt_yes p (U.take j) (U.getD j 0))
        have HNo := Lib.hid (@filt_no p (U.take j) (U.getD j 0))
        rw [← HS.out] at HY HNo
        obtain ⟨s1, s2⟩ := sum_same (h := U.getD j 0) (show 0 < (K : Int) by omega) (by exact_mod_cast HG.out _ (getD_mem hlt))
        have HFx := Lib.hid (HF.out (U.getD j 0))
        rw [s1, s2] at HFx
        clear s1 s2 hc hat HS hh
        generalize U.getD j 0 = x at *
        generalize fx (lZ x (K : Int)) (12 * (K : Int)) = X' at *
        generalize fy (lZ x (K : Int)) (12 * (K : Int)) = Y' at *
        cases hp : p x
        · have HNp := Lib.hid (HNo.out hp)
          have hE := HEx.out
          rw [hp] at hE
          go_wp2_with fail
          refine wp_region_ext (by kernel_rfl) (by kernel_rfl) ?_
          repeat (go_big_quiet_step (first | ((go_at_call 68; refine Calls.ext_of (Nat.le_refl _) (HFx.out _)))))
          refine wpQuiet_nil ?_
          intro w4 hb4
          obtain ⟨hc4, hf4⟩ := bcell hb4
          go_wp2_with fail
          go_roundw
          case rel => exact ⟨j + 1, by go_num, by omega, Lib.hid (by rw [HNp.out]; exact own_below HO.out hb4), hb.trans (hb4.mono hsz), hbw.below hb4⟩
          case measure => simp [intOf]; omega
        · have HYp := Lib.hid (HY.out hp)
          have hE := HEx.out
          rw [hp] at hE
          go_wp2_with fail
          refine wp_region_ext (by kernel_rfl) (by kernel_rfl) ?_
          repeat (go_big_quiet_step (first | ((go_at_call 68; refine Calls.ext_of (Nat.le_refl _) (HFx.out _)))))
          refine wpQuiet_nil ?_
          intro w4 hb4
          obtain ⟨hc4, hf4⟩ := bcell hb4
          go_wp2_with (at_builtin; refine app_one elI rfl _ _ rfl rfl rfl (by simp) (own_below HO.out hb4) (hb.trans (hb4.mono hsz)) rfl (by intro u hu; simp at hu; first | (subst hu; rfl) | (rcases hu with rfl | rfl <;> rfl) | (rcases hu with rfl | rfl | rfl <;> rfl) | (rcases hu with rfl | rfl | rfl | rfl <;> rfl)) (Nat.le_trans hsz hb4.size) (by omega) ?_; intro v' w5 hown5 hb5 hg5; have HO5 := Lib.hid hown5; clear hown5)
          have hbw5 := (hbw.below hb4).app hg5
          clear hg5
          go_wp2_with fail
          go_roundw
          case rel => exact ⟨j + 1, by go_num, by omega, Lib.hid (by rw [HYp.out]; simpa [ints] using HO5.out), hb5, hbw5⟩
          case measure => simp [intOf]; omega
      · obtain rfl : j = U.length := by omega
        have HT := Lib.hid (show U.take U.length = U from List.take_length)
        go_wp2_with fail
        go_ret2
        exact ⟨_, rfl, by have := HO.out; rwa [HT.out] at this, hb⟩
  · rw [show equalRes h k = ⟨[], 0, codeOf h k 100⟩ by simp [equalRes, hc]]
    generalize codeOf h k 100 = C at *
    go_enter Try.func35, Try.ntmps35
    go_wp2_with fail
    refine (HC.out _).mono ?_; rintro e w1 ⟨rfl, hb1⟩
    go_wp2_with fail
    go_ret2
    exact ⟨_, rfl, World.ownsRow_nil _ _ _ _, hb1⟩
set_option maxRecDepth 100000 in
set_option maxHeartbeats 1000000 in
theorem sEqualTo_any (h k : Int) (w : World) :
    Calls Try.prog 34 #[(.int .i64 h), (.int .i64 k)] w fun e w' => ∃ v, e = .returned (.tuple #[v, (.int .i64 ((equalRes h k).c))]) ∧ w'.ownsRow w.heap.size 2 1 v (equalRes h k).n (ints (equalRes h k).xs) ∧ Below w.heap.size w w' := by
  have HC := Lib.hid (fun W => l07Code_any h k 100 W (by omega))
  by_cases hc : codeOf h k 100 = 0
  · rw [show equalRes h k = ⟨equalL h k k.toNat, (equalL h k k.toNat).length, 0⟩ by simp [equalRes, hc]]
    obtain ⟨hk2, hg⟩ := codeOf_zero hc
    obtain ⟨k0, k1⟩ := (codeB_iff.1 hk2).2
    have HL := Lib.hid (fun W => l07Sum_all _ h k W (Nat.le_refl _) k0 (by omega) (by exact_mod_cast hg : Int.gcd h k = 1))
    rw [hc] at HC
    clear hc hk2 hg
    obtain ⟨K, rfl⟩ := Int.eq_ofNat_of_zero_le (show 0 ≤ k by omega)
    rw [Int.toNat_natCast]
    have HF := Lib.hid (fun i hg W => l07Sum_all _ i (K : Int) W (Nat.le_refl _) k0 (by omega) hg)
    have HE := Lib.hid (fun i => show (lZ i (K : Int) == lZ h (K : Int)) = eqP h K i from rfl)
    unfold equalL
    generalize eqP h (K : Int) = p at *
    generalize lZ h (K : Int) = Q at *
    go_enter Try.func34, Try.ntmps34
    go_wp2_with fail
    refine (HC.out _).mono ?_; rintro e w1 ⟨rfl, hb1⟩
    go_wp2_with fail
    refine (HL.out _).mono ?_; rintro e w' ⟨rfl, rfl⟩
    have hs1 := hb1.size
    go_wp2_with fail
    go_loopw [8, 9] (fun v i wr => ∃ m : Nat, i = (.int .i64 ((m : Int) + 1)) ∧ m ≤ K ∧ Hid (wr.ownsRow w.heap.size 2 1 v ((unitsL K m).filter p).length (ints ((unitsL K m).filter p))) ∧ Below w.heap.size w wr) (fun _ i _ => K + 1 - (intOf i).toNat)
    case atStart => exact ⟨0, by go_num, Nat.zero_le _, Lib.hid (World.ownsRow_lit w1 #[] 0 hs1 (by simp [maxLen]) rfl), hb1.alloc hs1 _⟩
    case round =>
      obtain ⟨m, rfl, hm, HO, hb⟩ := hrel
      have hsz := hb.size
      have hul := unitsL_len (K : Int) m
      have hfl := List.length_filter_le p (unitsL K m)
      by_cases hlt : m < K
      · by_cases hg : (Int.gcd ((m : Int) + 1) K : Int) = 1
        · have HG := Lib.hid (fun W => l01Gcd_any ((m : Int) + 1) K W (by omega) (by omega) (by omega) (by omega))
          have HU := Lib.hid (unitsL_yes hg)
          have hg' : Int.gcd ((m : Int) + 1) K = 1 := by exact_mod_cast hg
          have HL2 := Lib.hid (HF.out ((m : Int) + 1) hg')
          have HEx := Lib.hid (HE.out ((m : Int) + 1))
          have HY := Lib.hid (@filt_yes p (unitsL K m) ((m : Int) + 1))
          have HNo := Lib.hid (@filt_no p (unitsL K m) ((m : Int) + 1))
          rw [← HU.out] at HY HNo
          rw [hg] at HG
          clear hg HU hg'
          generalize lZ ((m : Int) + 1) (K : Int) = F at *
          cases hp : p ((m : Int) + 1)
          · have HNp := Lib.hid (HNo.out hp)
            have hE := HEx.out
            rw [hp] at hE
            clear hp
            go_wp2_with fail
            refine (HG.out _).mono ?_; rintro e w2 ⟨rfl, hb2⟩
            go_wp2_with fail
            refine (HL2.out _).mono ?_; rintro e w' ⟨rfl, rfl⟩
            go_wp2_with fail
            go_roundw
            case rel => exact ⟨m + 1, by go_num, by omega, Lib.hid (by rw [HNp.out]; exact own_below HO.out hb2), hb.trans (hb2.mono hsz)⟩
            case measure => simp [intOf]; omega
          · have HYp := Lib.hid (HY.out hp)
            have hE := HEx.out
            rw [hp] at hE
            clear hp
            go_wp2_with fail
            refine (HG.out _).mono ?_; rintro e w2 ⟨rfl, hb2⟩
            go_wp2_with fail
            refine (HL2.out _).mono ?_; rintro e w' ⟨rfl, rfl⟩
            go_wp2_with (at_builtin; refine app_one elI rfl _ _ rfl rfl rfl (by simp) (own_below HO.out hb2) (hb.trans (hb2.mono hsz)) rfl (by intro u hu; simp at hu; first | (subst hu; rfl) | (rcases hu with rfl | rfl <;> rfl) | (rcases hu with rfl | rfl | rfl <;> rfl) | (rcases hu with rfl | rfl | rfl | rfl <;> rfl)) (Nat.le_trans hsz hb2.size) (by omega) ?_; intro v' w5 hown5 hb5 hg5; have HO5 := Lib.hid hown5; clear hown5 hg5)
            go_roundw
            case rel => exact ⟨m + 1, by go_num, by omega, Lib.hid (by rw [HYp.out]; simpa [ints] using HO5.out), hb5⟩
            case measure => simp [intOf]; omega
        · have HG := Lib.hid (fun W => l01Gcd_any ((m : Int) + 1) K W (by omega) (by omega) (by omega) (by omega))
          have HU := Lib.hid (unitsL_no hg)
          generalize (Int.gcd ((m : Int) + 1) K : Int) = g at *
          go_wp2_with fail
          refine (HG.out _).mono ?_; rintro e w2 ⟨rfl, hb2⟩
          go_wp2_with fail
          go_roundw
          case rel => exact ⟨m + 1, by go_num, by omega, Lib.hid (by rw [HU.out]; exact own_below HO.out hb2), hb.trans (hb2.mono hsz)⟩
          case measure => simp [intOf]; omega
      · obtain rfl : m = K := by omega
        go_wp2_with fail
        go_ret2
        exact ⟨_, rfl, HO.out, hb⟩
  · rw [show equalRes h k = ⟨[], 0, codeOf h k 100⟩ by simp [equalRes, hc]]
    generalize codeOf h k 100 = C at *
    go_enter Try.func34, Try.ntmps34
    go_wp2_with fail
    refine (HC.out _).mono ?_; rintro e w1 ⟨rfl, hb1⟩
    go_wp2_with fail
    go_ret2
    exact ⟨_, rfl, World.ownsRow_nil _ _ _ _, hb1⟩
set_option maxRecDepth 100000 in
set_option maxHeartbeats 1000000 in
theorem lawFnExactEqualTo (h k : Int) (_ : I64 h) (_ : I64 k) (w : World) :
    Calls Try.prog 10 #[(.int .i64 h), (.int .i64 k)] w fun e w' => e = .returned (.bool true) ∧ Below w.heap.size w w' := by
  have HS := Lib.hid (sEqualTo_any h k)
  have HI := Lib.hid (EqualTo_any h k)
  have HN := Lib.hid (equalRes_len h k)
  have hn := equalRes_n h k
  generalize equalRes h k = R at HS HI HN hn
  obtain ⟨xs, n, c⟩ := R
  have hn : n ≤ 1000000 := hn
  go_enter Try.func10, Try.ntmps10
  have hn2 : (c != c) = false := by simp
  have hml : n ≤ maxLen := by unfold maxLen; omega
  go_wp2_with fail
  refine (HS.out _).mono ?_; rintro e w1 ⟨v0, rfl, ho0, hb1⟩
  obtain ⟨A0, cap0, rfl, -, -, hat0⟩ := own_view ho0
  have hu0 := Lib.hid (own_under ho0)
  have R0 := Lib.hid hat0
  clear ho0 hat0
  go_wp2_with fail
  refine (HI.out _).mono ?_; rintro e w2 ⟨v1, rfl, ho1, hb2⟩
  obtain ⟨A1, cap1, rfl, -, -, hat1⟩ := own_view ho1
  have O1 := Lib.hid ho1
  have R1 := Lib.hid hat1
  clear ho1 hat1
  have R0' := Lib.hid (R0.out.below hb2)
  go_wp2_with fail
  refine (eqInt64S_same A1 A0 n cap1 cap0 _ _ xs w2 HN.out hml R1.out R0'.out).mono ?_; rintro e w3 ⟨rfl, hb3⟩
  have O3 := Lib.hid (own_below O1.out hb3)
  have R03 := Lib.hid (R0'.out.below hb3)
  have hB2 := hb1.trans (hb2.mono hb1.size)
  have hB3 := hB2.trans (hb3.mono hB2.size)
  have hN := HN.out
  have M := Lib.hid (markInt64S_any (.slice A1 n cap1) n w1.heap.size 2 xs 1 w3 hN (by omega) (by omega) O3.out)
  clear hN
  go_wp2_with fail
  refine (M.out).mono ?_; rintro e w4 ⟨rfl, ho4, hg4⟩
  have hB4 := below_mark hB3 O3.out hg4 hb1.size
  have R04 := Lib.hid (R03.out.far O3.out hg4 hu0.out)
  have O4 := Lib.hid ho4
  clear ho4 hg4 M
  have hm0 : ¬ ((1 : Int) + ((n : Nat) : Int) < 0) := by omega
  have hm1 : ((1 : Int) + ((n : Nat) : Int) != 1 + ((n : Nat) : Int)) = false := by simp
  go_wp2_with fail
  refine (heldInt64S_any A1 n cap1 _ 1 w4 hml (by omega) (by omega) (own_at O4.out)).mono ?_; rintro e w5 ⟨rfl, hb5⟩
  have hB5 := hB4.trans (hb5.mono hB4.size)
  have O5 := Lib.hid (own_below O4.out hb5)
  have R05 := Lib.hid (R04.out.below hb5)
  go_wp2_with fail
  refine (HI.out _).mono ?_; rintro e w6 ⟨v2, rfl, ho6, hb6⟩
  obtain ⟨A2, cap2, rfl, -, -, hat6⟩ := own_view ho6
  have R6 := Lib.hid hat6
  clear ho6 hat6
  have hB6 := hB5.trans (hb6.mono hB5.size)
  have O6 := Lib.hid (own_below O5.out hb6)
  have R06 := Lib.hid (R05.out.below hb6)
  go_wp2_with fail
  refine (eqInt64S_same A2 A0 n cap2 cap0 _ _ xs w6 HN.out hml R6.out R06.out).mono ?_; rintro e w7 ⟨rfl, hb7⟩
  have hB7 := hB6.trans (hb7.mono hB6.size)
  have O7 := Lib.hid (own_below O6.out hb7)
  go_wp2_with fail
  refine (heldInt64S_any A1 n cap1 _ 1 w7 hml (by omega) (by omega) (own_at O7.out)).mono ?_; rintro e w8 ⟨rfl, hb8⟩
  have hB8 := hB7.trans (hb8.mono hB7.size)
  go_wp2_with fail
  go_ret
  exact ⟨rfl, hB8⟩
end Go.Proofs.Ytkhlgphmimddhaa
