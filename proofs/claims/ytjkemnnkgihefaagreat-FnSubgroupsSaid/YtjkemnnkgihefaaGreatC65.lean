/- Contracts: NormalPair, CosetOf; their laws. -/
import Derived.Test.YtjkemnnkgihefaaGreatC63
namespace Go.Proofs.YtjkemnnkgihefaaGreat
open Go.RowKit
def npRes (n c d : Int) : P2 × Int := if inB n 1 60 = true then (if (entB c && entB d) = true then (if isPairB n (c % n) (d % n) = true then (normal n (c % n) (d % n), 0) else (⟨0, 0⟩, 5)) else (⟨0, 0⟩, 2)) else (⟨0, 0⟩, 2)
theorem allE2 (a b : Int) : (allB 2 fun i => entB (if i = 0 then a else b)) = (entB a && entB b) := by
  simp [allB, List.range_succ]
theorem ret_three {a b c x y z : Int} (h1 : x = a) (h2 : y = b) (h3 : z = c) : Ending.returned (.tuple #[(.int .i64 a), (.int .i64 b), (.int .i64 c)]) = .returned (.tuple #[(.int .i64 x), (.int .i64 y), (.int .i64 z)]) := by rw [h1, h2, h3]
theorem isLevel_any (n : Int) (w : World) : Calls Tryz.prog 39 #[(.int .i64 n)] w fun e w' => e = .returned (.bool (inB n 1 60)) ∧ w = w' := by
  have H := Lib.hid (fun W => within_any n 1 60 W)
  generalize inB n 1 60 = R at *
  go_enter Tryz.func39, Tryz.ntmps39
  go_wp2_with fail
  refine (H.out _).mono ?_; rintro e w' ⟨rfl, rfl⟩
  go_wp2_with fail
  go_ret
  exact ⟨rfl, rfl⟩
set_option maxRecDepth 100000 in
set_option maxHeartbeats 4000000 in
theorem NormalPair_any (n c d : Int) (w : World) :
    Calls Tryz.prog 15 #[(.int .i64 n), (.int .i64 c), (.int .i64 d)] w fun e w' => e = .returned (.tuple #[(.int .i64 ((npRes n c d).1.x)), (.int .i64 ((npRes n c d).1.y)), (.int .i64 ((npRes n c d).2))]) ∧ Below w.heap.size w w' := by
  have H1 := Lib.hid (fun W => isLevel_any n W)
  cases hn : inB n 1 60
  · rw [show npRes n c d = (⟨0, 0⟩, 2) by simp [npRes, hn]]
    rw [hn] at H1
    go_enter Tryz.func15, Tryz.ntmps15
    go_wp2_with fail
    refine (H1.out _).mono ?_; rintro e w' ⟨rfl, rfl⟩
    go_wp2_with fail
    go_ret3
    exact ⟨rfl, Below.refl _ _⟩
  rw [hn] at H1
  have HE := Lib.hid (fun b cap W h => areEntries_any b 0 cap 2 (fun i => if i = 0 then c else d) W (by omega) h)
  rw [allE2] at HE
  cases he : (entB c && entB d)
  · rw [show npRes n c d = (⟨0, 0⟩, 2) by simp only [npRes, hn, he]; rfl]
    rw [he] at HE
    clear he hn
    go_enter Tryz.func15, Tryz.ntmps15
    go_wp2_with fail
    refine (H1.out _).mono ?_; rintro e w' ⟨rfl, rfl⟩
    go_wp2_with fail
    refine (HE.out _ _ _ (by intro i hi; rcases (show i = 0 ∨ i = 1 by omega) with rfl | rfl <;> simp)).mono ?_; rintro e w' ⟨rfl, rfl⟩
    go_wp2_with fail
    go_ret3
    exact ⟨rfl, by go_grown⟩
  rw [he] at HE
  obtain ⟨n0, n1⟩ := inB_iff.1 hn
  have er : npRes n c d = if isPairB n (c % n) (d % n) = true then (normal n (c % n) (d % n), 0) else (⟨0, 0⟩, 5) := by unfold npRes; rw [if_pos hn, if_pos he]
  rw [er]
  clear er he hn
  obtain ⟨N, rfl⟩ := Int.eq_ofNat_of_zero_le (show 0 ≤ n by omega)
  have N0 : 0 < N := by omega
  have R1 := Lib.hid (fun W => rest_any c (N : Int) W (by omega) (by omega))
  have R2 := Lib.hid (fun W => rest_any d (N : Int) W (by omega) (by omega))
  have bc := modB (c := c) N0
  have bd := modB (c := d) N0
  have HM := Lib.hid (fun W => normal_any N (c % N) (d % N) W N0 (by omega) bc bd)
  generalize c % (N : Int) = c' at *
  generalize d % (N : Int) = d' at *
  have HI := Lib.hid (fun W => isPair_any (N : Int) c' d' W (by omega) (by omega) (by omega) (by omega) (by omega) (by omega))
  clear bc bd
  generalize normal (N : Int) c' d' = p at *
  obtain ⟨x, y⟩ := p
  simp only at HM
  cases hp : isPairB (N : Int) c' d'
  · rw [hp] at HI
    simp only [Bool.false_eq_true, if_false]
    go_enter Tryz.func15, Tryz.ntmps15
    go_wp2_with fail
    refine (H1.out _).mono ?_; rintro e w' ⟨rfl, rfl⟩
    go_wp2_with fail
    refine (HE.out _ _ _ (by intro i hi; rcases (show i = 0 ∨ i = 1 by omega) with rfl | rfl <;> simp)).mono ?_; rintro e w' ⟨rfl, rfl⟩
    go_wp2_with fail
    refine (R1.out _).mono ?_; rintro e w' ⟨rfl, rfl⟩
    go_wp2_with fail
    refine (R2.out _).mono ?_; rintro e w' ⟨rfl, rfl⟩
    go_wp2_with fail
    refine (HI.out _).mono ?_; rintro e w1 ⟨rfl, hb1⟩
    obtain ⟨hc1, hf1⟩ := bcell hb1
    have hB1 : Below w.heap.size w w1 := bfin (by go_grown) hb1
    go_wp2_with fail
    go_ret3
    exact ⟨rfl, by go_grown⟩
  · rw [hp] at HI
    simp only [if_true]
    go_enter Tryz.func15, Tryz.ntmps15
    go_wp2_with fail
    refine (H1.out _).mono ?_; rintro e w' ⟨rfl, rfl⟩
    go_wp2_with fail
    refine (HE.out _ _ _ (by intro i hi; rcases (show i = 0 ∨ i = 1 by omega) with rfl | rfl <;> simp)).mono ?_; rintro e w' ⟨rfl, rfl⟩
    go_wp2_with fail
    refine (R1.out _).mono ?_; rintro e w' ⟨rfl, rfl⟩
    go_wp2_with fail
    refine (R2.out _).mono ?_; rintro e w' ⟨rfl, rfl⟩
    go_wp2_with fail
    refine (HI.out _).mono ?_; rintro e w1 ⟨rfl, hb1⟩
    obtain ⟨hc1, hf1⟩ := bcell hb1
    obtain ⟨hz1_0, hz1_1⟩ : w.heap.size < w1.heap.size ∧ w.heap.size + 1 < w1.heap.size := by have := hb1.size; (try simp at this); omega
    go_wp2_with fail
    refine (HM.out _).mono ?_; rintro e w2 ⟨rfl, hb2⟩
    replace hb2 := bstep hb1 hb2
    clear hc1 hf1 hb1
    obtain ⟨hc2, hf2⟩ := bcell hb2
    obtain ⟨hz2_0, hz2_1⟩ : w.heap.size < w2.heap.size ∧ w.heap.size + 1 < w2.heap.size := by have := hb2.size; (try simp at this); omega
    have hB2 : Below w.heap.size w w2 := bfin (by go_grown) hb2
    go_wp2_with fail
    go_quiet (fail)
    go_wp2_with fail
    go_ret3
    exact ⟨rfl, below_drewN (by go_grown) _⟩
set_option maxRecDepth 100000 in
set_option maxHeartbeats 4000000 in
theorem sNormalPair_any (n c d : Int) (w : World) :
    Calls Tryz.prog 16 #[(.int .i64 n), (.int .i64 c), (.int .i64 d)] w fun e w' => e = .returned (.tuple #[(.int .i64 ((npRes n c d).1.x)), (.int .i64 ((npRes n c d).1.y)), (.int .i64 ((npRes n c d).2))]) ∧ Below w.heap.size w w' := by
  have H1 := Lib.hid (fun W => l01In_any n 1 60 W)
  have E1 := Lib.hid (fun W => l01Entry_any c W)
  have E2 := Lib.hid (fun W => l01Entry_any d W)
  cases hn : inB n 1 60
  · rw [show npRes n c d = (⟨0, 0⟩, 2) by simp [npRes, hn]]
    rw [hn] at H1
    go_enter Tryz.func16, Tryz.ntmps16
    go_wp2_with fail
    refine (H1.out _).mono ?_; rintro e w' ⟨rfl, rfl⟩
    go_wp2_with fail
    go_ret3
    exact ⟨rfl, Below.refl _ _⟩
  rw [hn] at H1
  cases hc : entB c
  · rw [show npRes n c d = (⟨0, 0⟩, 2) by simp [npRes, hc]]
    rw [hc] at E1
    go_enter Tryz.func16, Tryz.ntmps16
    go_wp2_with fail
    refine (H1.out _).mono ?_; rintro e w' ⟨rfl, rfl⟩
    go_wp2_with fail
    refine (E1.out _).mono ?_; rintro e w' ⟨rfl, rfl⟩
    go_wp2_with fail
    go_ret3
    exact ⟨rfl, Below.refl _ _⟩
  rw [hc] at E1
  cases hd : entB d
  · rw [show npRes n c d = (⟨0, 0⟩, 2) by simp [npRes, hd]]
    rw [hd] at E2
    go_enter Tryz.func16, Tryz.ntmps16
    go_wp2_with fail
    refine (H1.out _).mono ?_; rintro e w' ⟨rfl, rfl⟩
    go_wp2_with fail
    refine (E1.out _).mono ?_; rintro e w' ⟨rfl, rfl⟩
    go_wp2_with fail
    refine (E2.out _).mono ?_; rintro e w' ⟨rfl, rfl⟩
    go_wp2_with fail
    go_ret3
    exact ⟨rfl, Below.refl _ _⟩
  rw [hd] at E2
  obtain ⟨n0, n1⟩ := inB_iff.1 hn
  have er : npRes n c d = if isPairB n (c % n) (d % n) = true then (normal n (c % n) (d % n), 0) else (⟨0, 0⟩, 5) := by unfold npRes; rw [if_pos hn, if_pos (by rw [hc, hd]; rfl)]
  rw [er]
  clear er hc hd hn
  obtain ⟨N, rfl⟩ := Int.eq_ofNat_of_zero_le (show 0 ≤ n by omega)
  have N0 : 0 < N := by omega
  have R1 := Lib.hid (fun W => l01Mod_any c (N : Int) W (by omega) (by omega))
  have R2 := Lib.hid (fun W => l01Mod_any d (N : Int) W (by omega) (by omega))
  have HM := Lib.hid (fun W => l06Normal_any N (c % N) (d % N) W N0 (by omega) (modB N0) (modB N0))
  generalize c % (N : Int) = c' at *
  generalize d % (N : Int) = d' at *
  cases hp : isPairB (N : Int) c' d'
  · rw [nrmV_no hp] at HM
    simp only [Bool.false_eq_true, if_false]
    go_enter Tryz.func16, Tryz.ntmps16
    go_wp2_with fail
    refine (H1.out _).mono ?_; rintro e w' ⟨rfl, rfl⟩
    go_wp2_with fail
    refine (E1.out _).mono ?_; rintro e w' ⟨rfl, rfl⟩
    go_wp2_with fail
    refine (E2.out _).mono ?_; rintro e w' ⟨rfl, rfl⟩
    go_wp2_with fail
    refine (R1.out _).mono ?_; rintro e w' ⟨rfl, rfl⟩
    go_wp2_with fail
    refine (R2.out _).mono ?_; rintro e w' ⟨rfl, rfl⟩
    go_wp2_with fail
    refine (HM.out _).mono ?_; rintro e w1 ⟨rfl, hb1⟩
    obtain ⟨hc1, hf1⟩ := bcell hb1
    have hB1 : Below w.heap.size w w1 := bfin (by go_grown) hb1
    go_wp2_with fail
    go_ret3
    exact ⟨rfl, by go_grown⟩
  · rw [nrmV_yes hp] at HM
    simp only [if_true]
    generalize normal (N : Int) c' d' = p at *
    obtain ⟨x, y⟩ := p
    simp only at HM ⊢
    go_enter Tryz.func16, Tryz.ntmps16
    go_wp2_with fail
    refine (H1.out _).mono ?_; rintro e w' ⟨rfl, rfl⟩
    go_wp2_with fail
    refine (E1.out _).mono ?_; rintro e w' ⟨rfl, rfl⟩
    go_wp2_with fail
    refine (E2.out _).mono ?_; rintro e w' ⟨rfl, rfl⟩
    go_wp2_with fail
    refine (R1.out _).mono ?_; rintro e w' ⟨rfl, rfl⟩
    go_wp2_with fail
    refine (R2.out _).mono ?_; rintro e w' ⟨rfl, rfl⟩
    go_wp2_with fail
    refine (HM.out _).mono ?_; rintro e w1 ⟨rfl, hb1⟩
    obtain ⟨hc1, hf1⟩ := bcell hb1
    have hB1 : Below w.heap.size w w1 := bfin (by go_grown) hb1
    go_wp2_with fail
    go_ret3
    exact ⟨rfl, by go_grown⟩
def cosetRes (n a b c d : Int) : Int × Int := if isMat a b c d = true then (if inB n 1 60 = true then (cosetI n (lineL n) c d, 0) else (0, 2)) else (0, 1)
set_option maxRecDepth 100000 in
set_option maxHeartbeats 4000000 in
theorem CosetOf_any (n a b c d : Int) (w : World) :
    Calls Tryz.prog 12 #[(.int .i64 n), (.agg #[.int .i64 a, .int .i64 b, .int .i64 c, .int .i64 d])] w fun e w' => e = .returned (.tuple #[(.int .i64 ((cosetRes n a b c d).1)), (.int .i64 ((cosetRes n a b c d).2))]) ∧ Below w.heap.size w w' := by
  have H0 := Lib.hid (fun W => IsMatrix_any a b c d W)
  have H1 := Lib.hid (fun W => isLevel_any n W)
  cases hM : isMat a b c d
  · rw [show cosetRes n a b c d = (0, 1) by simp [cosetRes, hM]]
    rw [hM] at H0
    go_enter Tryz.func12, Tryz.ntmps12
    go_wp2_with fail
    refine (H0.out _).mono ?_; rintro e w1 ⟨rfl, hb1⟩
    obtain ⟨hc1, hf1⟩ := bcell hb1
    have hB1 : Below w.heap.size w w1 := bfin (by go_grown) hb1
    go_wp2_with fail
    go_ret2
    exact ⟨rfl, by go_grown⟩
  rw [hM] at H0
  cases hn : inB n 1 60
  · rw [show cosetRes n a b c d = (0, 2) by simp [cosetRes, hM, hn]]
    rw [hn] at H1
    go_enter Tryz.func12, Tryz.ntmps12
    go_wp2_with fail
    refine (H0.out _).mono ?_; rintro e w1 ⟨rfl, hb1⟩
    obtain ⟨hc1, hf1⟩ := bcell hb1
    go_wp2_with fail
    refine (H1.out _).mono ?_; rintro e w' ⟨rfl, rfl⟩
    have hB1 : Below w.heap.size w w1 := bfin (by go_grown) hb1
    go_wp2_with fail
    go_ret2
    exact ⟨rfl, by go_grown⟩
  rw [hn] at H1
  rw [show cosetRes n a b c d = (cosetI n (lineL n) c d, 0) by simp [cosetRes, hM, hn]]
  obtain ⟨n0, n1⟩ := inB_iff.1 hn
  clear hM hn
  obtain ⟨N, rfl⟩ := Int.eq_ofNat_of_zero_le (show 0 ≤ n by omega)
  have N0 : 0 < N := by omega
  have hl : (lineL (N : Int)).length ≤ 4000 := by have := lineL_len (n := (N : Int)) (by omega); omega
  have HL := Lib.hid (fun W => line_any N W N0 (by omega))
  have HC := Lib.hid (fun A cap B W h => coset_any N A cap B (lineL N) c d W N0 (by omega) hl h)
  generalize cosetI (N : Int) (lineL N) c d = R at *
  generalize lineL (N : Int) = L at *
  go_enter Tryz.func12, Tryz.ntmps12
  go_wp2_with fail
  refine (H0.out _).mono ?_; rintro e w1 ⟨rfl, hb1⟩
  obtain ⟨hc1, hf1⟩ := bcell hb1
  go_wp2_with fail
  refine (H1.out _).mono ?_; rintro e w' ⟨rfl, rfl⟩
  have hz0 : w.heap.size < w1.heap.size := by have := hb1.size; (try simp at this); omega
  go_wp2_with fail
  have hB1 : Below w.heap.size w w1 := bfin (by go_grown) hb1
  have s2 : w1.cell? ⟨w.heap.size, 2, none⟩ = some (.int .i64 c) := by rw [hc1 _ _ (by simp)]; go_simp
  have s3 : w1.cell? ⟨w.heap.size, 3, none⟩ = some (.int .i64 d) := by rw [hc1 _ _ (by simp)]; go_simp
  clear hc1 hf1
  go_region_held3 (fun w' => w'.cell? ⟨w.heap.size, 2, none⟩ = some (.int .i64 c) ∧ w'.cell? ⟨w.heap.size, 3, none⟩ = some (.int .i64 d)) (first | exact ⟨q4, q5⟩ | exact ⟨q2, q3⟩ | go_keep) (first | (go_at_call 40; refine (HL.out _).mono ?_; rintro e w2 ⟨v, rfl, hown, hb2⟩; obtain ⟨hc2, -⟩ := bcell hb2; have q2 : w2.cell? ⟨w.heap.size, 2, none⟩ = some (.int .i64 c) := (hc2 _ _ (by simpa using hz0)).trans s2; have q3 : w2.cell? ⟨w.heap.size, 3, none⟩ = some (.int .i64 d) := (hc2 _ _ (by simpa using hz0)).trans s3; clear hc2; obtain ⟨A, cap, rfl, -, -, hat⟩ := own_view hown; have HAt := Lib.hid hat; have HB2 := Lib.hid hb2; clear hown hat hb2) | (go_at_call 44; refine (HC.out _ _ _ _ HAt.out).mono ?_; rintro e w3 ⟨rfl, hb3⟩; obtain ⟨hc3, -⟩ := bcell hb3; have q4 : w3.cell? ⟨w.heap.size, 2, none⟩ = some (.int .i64 c) := (hc3 _ _ (Nat.lt_of_lt_of_le hz0 HB2.out.size)).trans q2; have q5 : w3.cell? ⟨w.heap.size, 3, none⟩ = some (.int .i64 d) := (hc3 _ _ (Nat.lt_of_lt_of_le hz0 HB2.out.size)).trans q3; clear hc3; have HB3 := Lib.hid hb3; clear hb3))
  have hBB := fun (h : Below w1.heap.size w1 w2) => hB1.trans (h.mono hB1.size)
  go_wp2_with fail
  go_ret2
  exact ⟨rfl, (hBB ⟨HB2.out.os, HB2.out.tape, HB2.out.output, HB2.out.size, HB2.out.block⟩).trans (HB3.out.mono (Nat.le_trans hB1.size HB2.out.size))⟩
set_option maxRecDepth 100000 in
set_option maxHeartbeats 4000000 in
theorem sCosetOf_any (n a b c d : Int) (w : World) :
    Calls Tryz.prog 13 #[(.int .i64 n), (.agg #[.int .i64 a, .int .i64 b, .int .i64 c, .int .i64 d])] w fun e w' => e = .returned (.tuple #[(.int .i64 ((cosetRes n a b c d).1)), (.int .i64 ((cosetRes n a b c d).2))]) ∧ Below w.heap.size w w' := by
  have H0 := Lib.hid (fun W => l01Is_any a b c d W)
  have H1 := Lib.hid (fun W => l01In_any n 1 60 W)
  cases hM : isMat a b c d
  · rw [show cosetRes n a b c d = (0, 1) by simp [cosetRes, hM]]
    rw [hM] at H0
    go_enter Tryz.func13, Tryz.ntmps13
    go_wp2_with fail
    refine (H0.out _).mono ?_; rintro e w1 ⟨rfl, hb1⟩
    obtain ⟨hc1, hf1⟩ := bcell hb1
    have hB1 : Below w.heap.size w w1 := bfin (by go_grown) hb1
    go_wp2_with fail
    go_ret2
    exact ⟨rfl, by go_grown⟩
  rw [hM] at H0
  cases hn : inB n 1 60
  · rw [show cosetRes n a b c d = (0, 2) by simp [cosetRes, hM, hn]]
    rw [hn] at H1
    go_enter Tryz.func13, Tryz.ntmps13
    go_wp2_with fail
    refine (H0.out _).mono ?_; rintro e w1 ⟨rfl, hb1⟩
    obtain ⟨hc1, hf1⟩ := bcell hb1
    go_wp2_with fail
    refine (H1.out _).mono ?_; rintro e w' ⟨rfl, rfl⟩
    have hB1 : Below w.heap.size w w1 := bfin (by go_grown) hb1
    go_wp2_with fail
    go_ret2
    exact ⟨rfl, by go_grown⟩
  rw [hn] at H1
  rw [show cosetRes n a b c d = (cosetI n (lineL n) c d, 0) by simp [cosetRes, hM, hn]]
  have hp := pair_det (n := n) (isMat_iff.1 hM).det
  obtain ⟨n0, n1⟩ := inB_iff.1 hn
  clear hM hn
  obtain ⟨N, rfl⟩ := Int.eq_ofNat_of_zero_le (show 0 ≤ n by omega)
  have N0 : 0 < N := by omega
  have hl : (lineL (N : Int)).length ≤ 4000 := by have := lineL_len (n := (N : Int)) (by omega); omega
  have HL := Lib.hid (fun W => l06Line_any N W N0 (by omega))
  have HC := Lib.hid (fun v B inn W h => l06Number_any N v B (lineL N) inn c d W N0 (by omega) hl hp h)
  clear hp
  generalize cosetI (N : Int) (lineL N) c d = R at *
  generalize lineL (N : Int) = L at *
  go_enter Tryz.func13, Tryz.ntmps13
  go_wp2_with fail
  refine (H0.out _).mono ?_; rintro e w1 ⟨rfl, hb1⟩
  obtain ⟨hc1, hf1⟩ := bcell hb1
  go_wp2_with fail
  refine (H1.out _).mono ?_; rintro e w' ⟨rfl, rfl⟩
  have hz0 : w.heap.size < w1.heap.size := by have := hb1.size; (try simp at this); omega
  go_wp2_with fail
  have hB1 : Below w.heap.size w w1 := bfin (by go_grown) hb1
  have s2 : w1.cell? ⟨w.heap.size, 2, none⟩ = some (.int .i64 c) := by rw [hc1 _ _ (by simp)]; go_simp
  have s3 : w1.cell? ⟨w.heap.size, 3, none⟩ = some (.int .i64 d) := by rw [hc1 _ _ (by simp)]; go_simp
  clear hc1 hf1
  go_region_held3 (fun w' => w'.cell? ⟨w.heap.size, 2, none⟩ = some (.int .i64 c) ∧ w'.cell? ⟨w.heap.size, 3, none⟩ = some (.int .i64 d)) (first | exact ⟨q4, q5⟩ | exact ⟨q2, q3⟩ | go_keep) (first | (go_at_call 42; refine (HL.out _).mono ?_; rintro e w2 ⟨v, inn, rfl, hown, hb2⟩; obtain ⟨hc2, -⟩ := bcell hb2; have q2 : w2.cell? ⟨w.heap.size, 2, none⟩ = some (.int .i64 c) := (hc2 _ _ (by simpa using hz0)).trans s2; have q3 : w2.cell? ⟨w.heap.size, 3, none⟩ = some (.int .i64 d) := (hc2 _ _ (by simpa using hz0)).trans s3; clear hc2; have HAt := Lib.hid hown; have HB2 := Lib.hid hb2; clear hown hb2) | (go_at_call 45; refine (HC.out _ _ _ _ HAt.out).mono ?_; rintro e w3 ⟨rfl, hb3⟩; obtain ⟨hc3, -⟩ := bcell hb3; have q4 : w3.cell? ⟨w.heap.size, 2, none⟩ = some (.int .i64 c) := (hc3 _ _ (Nat.lt_of_lt_of_le hz0 HB2.out.size)).trans q2; have q5 : w3.cell? ⟨w.heap.size, 3, none⟩ = some (.int .i64 d) := (hc3 _ _ (Nat.lt_of_lt_of_le hz0 HB2.out.size)).trans q3; clear hc3; have HB3 := Lib.hid hb3; clear hb3))
  have hBB := fun (h : Below w1.heap.size w1 w2) => hB1.trans (h.mono hB1.size)
  go_wp2_with fail
  go_ret2
  exact ⟨rfl, (hBB ⟨HB2.out.os, HB2.out.tape, HB2.out.output, HB2.out.size, HB2.out.block⟩).trans (HB3.out.mono (Nat.le_trans hB1.size HB2.out.size))⟩
end Go.Proofs.YtjkemnnkgihefaaGreat
