/- The law CuspOfFraction. -/
import Derived.Test.YtjkemnnkgihefaaC103
import Derived.Deep.RegionHeld3
namespace Go.Proofs.Ytjkemnnkgihefaa
open Go.RowKit
def cuspV (n Q s : Int) : Int := (cusN (cosP n) (cosP n).length).1.getD (cosetI n (lineL n) Q s).toNat 0
theorem cusp_rows {N : Nat} {p q r s : Int} (n0 : 0 < N) (n1 : N ≤ 60) (h : p * s - q * r = 1) :
    ∃ m : Nat, cuspV N q s = m ∧ m < (cusL (cosP (N : Int))).length ∧ (cusL (cosP (N : Int))).length ≤ 20000 ∧ (∀ k, ((cusL (cosP (N : Int))).getD k []).length ≤ 20000) ∧ memI (cosetI N (lineL N) q s) ((cusL (cosP (N : Int))).getD m []) = true ∧ ∀ j, j < m → memI (cosetI N (lineL N) q s) ((cusL (cosP (N : Int))).getD j []) = false := by
  have hpr : isPairB N (q % N) (s % N) = true := pair_det (a := p) (b := r) (by rw [Int.mul_comm r]; exact h)
  obtain ⟨c0, c1⟩ := coset_in (n := (N : Int)) (by omega) hpr
  obtain ⟨hc, hl⟩ := cusN_bd n0 n1
  rw [← cosP_len] at c1
  unfold cuspV cusL
  generalize cosetI (N : Int) (lineL N) q s = c at *
  have hk : c.toNat < (cosP (N : Int)).length := by omega
  have g0 := hc.met _ hk hk
  have g1 := hc.hi _ hk
  have hML := hc.len
  have kc1 := hc.c1
  generalize (cusN (cosP (N : Int)) (cosP (N : Int)).length).1 = M at *
  generalize (cusN (cosP (N : Int)) (cosP (N : Int)).length).2 = C at *
  generalize (cosP (N : Int)).length = len at *
  refine ⟨(M.getD c.toNat 0).toNat, by omega, by rw [rowsC_len]; omega, by rw [rowsC_len]; omega, fun k => ?_, ?_, fun j hj => ?_⟩
  · by_cases hi : k < C.toNat
    · rw [rowsC_at hi]
      have := idxs_len M k
      omega
    · rw [List.getD_eq_getElem?_getD, List.getElem?_eq_none (by rw [rowsC_len]; omega)]; simp
  · rw [rowsC_at (by omega)]
    unfold memI
    rw [decide_eq_true_eq, idxs_mem]
    exact ⟨c0, by omega, by omega⟩
  · rw [rowsC_at (by omega)]
    unfold memI
    rw [decide_eq_false_iff_not, idxs_mem]
    rintro ⟨-, -, e⟩
    omega
theorem boxKeep {W w3 : World} {T : TypeId} (h : Below (W.alloc (.cells #[(.int .i64 0)] T)).heap.size (W.alloc (.cells #[(.int .i64 0)] T)) w3) : w3.cell? ⟨W.heap.size, 0, none⟩ = some (.int .i64 0) ∧ w3.frozen? ⟨W.heap.size, 0, none⟩ = false ∧ W.heap.size < w3.heap.size := by
  obtain ⟨h1, h2⟩ := bcell h
  have h3 := h.size
  simp at h3
  refine ⟨?_, ?_, by omega⟩
  · rw [h1 _ _ (by simp)]; simp
  · rw [h2 _ _ (by simp)]; simp
theorem boxKeepD {W w3 : World} {T : TypeId} (h : Below (W.alloc (.cells #[(.int .i64 0)] T)).drew.heap.size (W.alloc (.cells #[(.int .i64 0)] T)).drew w3) : w3.cell? ⟨W.heap.size, 0, none⟩ = some (.int .i64 0) ∧ w3.frozen? ⟨W.heap.size, 0, none⟩ = false ∧ W.heap.size < w3.heap.size := by
  obtain ⟨h1, h2⟩ := bcell h
  have h3 := h.size
  simp at h3
  refine ⟨?_, ?_, by omega⟩
  · rw [h1 _ _ (by simp)]; simp
  · rw [h2 _ _ (by simp)]; simp
/-- Some second number there is. -/
theorem bez_done_any {P Q : Int} (hg : (Int.gcd P Q : Int) = 1) : ∃ r s : Int, P * s - Q * r = 1 := by
  have key : ∀ (m : Nat) (K : Nat) (p q a b c d : Int), q.natAbs ≤ m → Bez K P Q p q a b c d → ∃ r s : Int, P * s - Q * r = 1 := by
    intro m
    induction m with
    | zero =>
      intro K p q a b c d h hb
      have : q = 0 := by omega
      subst this
      exact ⟨_, _, hb.done⟩
    | succ m ih =>
      intro K p q a b c d h hb
      by_cases hq : q = 0
      · subst hq
        exact ⟨_, _, hb.done⟩
      · obtain ⟨h1, h2, -⟩ := hb.step hq
        exact ih K _ _ _ _ _ _ (by omega) h1
  exact key _ (P.natAbs + Q.natAbs + 1) _ _ _ _ _ _ (Nat.le_refl _) (bez_start (by omega) (by omega) (by omega) (cop_gcd hg))
set_option maxRecDepth 100000 in
set_option maxHeartbeats 2000000 in
theorem CuspOfFraction_any (n P Q : Int) (w : World) :
    Calls Try.prog 6 #[(.int .i64 n), (.agg #[.int .i64 P, .int .i64 Q])] w fun e w' => (if isFrac P Q = true then (if inB n 1 60 = true then ∃ r s, P * s - Q * r = 1 ∧ e = .returned (.tuple #[(.int .i64 (cuspV n Q s)), (.int .i64 0)]) else e = .returned (.tuple #[(.int .i64 0), (.int .i64 2)])) else e = .returned (.tuple #[(.int .i64 0), (.int .i64 1)])) ∧ Below w.heap.size w w' := by
  have HF := Lib.hid (fun W => IsFraction_any P Q W)
  have H1 := Lib.hid (fun W => isLevel_any n W)
  cases hf : isFrac P Q
  · simp only [Bool.false_eq_true, if_false]
    rw [hf] at HF
    go_enter Try.func6, Try.ntmps6
    go_wp2_with fail
    refine (HF.out _).mono ?_; rintro e w1 ⟨rfl, hb1⟩
    obtain ⟨hc1, hf1⟩ := bcell hb1
    have hB1 : Below w.heap.size w w1 := bfin (by go_grown) hb1
    go_wp2_with fail
    go_ret2
    exact ⟨rfl, by go_grown⟩
  simp only [if_true]
  rw [hf] at HF
  cases hn : inB n 1 60
  · simp only [Bool.false_eq_true, if_false]
    rw [hn] at H1
    go_enter Try.func6, Try.ntmps6
    go_wp2_with fail
    refine (HF.out _).mono ?_; rintro e w1 ⟨rfl, hb1⟩
    obtain ⟨hc1, hf1⟩ := bcell hb1
    go_wp2_with fail
    refine (H1.out _).mono ?_; rintro e w' ⟨rfl, rfl⟩
    have hB1 : Below w.heap.size w w1 := bfin (by go_grown) hb1
    go_wp2_with fail
    go_ret2
    exact ⟨rfl, by go_grown⟩
  simp only [if_true]
  rw [hn] at H1
  obtain ⟨n0, n1⟩ := inB_iff.1 hn
  obtain ⟨⟨p0, p1⟩, ⟨q0, q1⟩, hg, h0⟩ := isFrac_iff.1 hf
  clear hn hf
  obtain ⟨N, rfl⟩ := Int.eq_ofNat_of_zero_le (show 0 ≤ n by omega)
  have N0 : 0 < N := by omega
  have HB := Lib.hid (fun W => bezout_any P Q W (by omega) (by omega) hg)
  have hl : (lineL (N : Int)).length ≤ 4000 := by have := lineL_len (n := (N : Int)) (by omega); omega
  have HL := Lib.hid (fun W => line_any N W N0 (by omega))
  have HC := Lib.hid (fun d A cap B W h => coset_any N A cap B (lineL N) Q d W N0 (by omega) hl h)
  have HU := Lib.hid (fun W => cusps_any N W N0 (by omega))
  go_enter Try.func6, Try.ntmps6
  go_wp2_with fail
  refine (HF.out _).mono ?_; rintro e w1 ⟨rfl, hb1⟩
  obtain ⟨hc1, hf1⟩ := bcell hb1
  go_wp2_with fail
  refine (H1.out _).mono ?_; rintro e w' ⟨rfl, rfl⟩
  have hz0 : w.heap.size < w1.heap.size := by have := hb1.size; (try simp at this); omega
  go_wp2_with fail
  have hB1 : Below w.heap.size w w1 := bfin (by go_grown) hb1
  have s0 : w1.cell? ⟨w.heap.size, 0, none⟩ = some (.int .i64 P) := by rw [hc1 _ _ (by simp)]; go_simp
  have s1 : w1.cell? ⟨w.heap.size, 1, none⟩ = some (.int .i64 Q) := by rw [hc1 _ _ (by simp)]; go_simp
  clear hc1 hf1
  go_wp2_with fail
  refine (HB.out _).mono ?_; rintro e w2 ⟨r, s, rfl, hrs, hb2⟩
  obtain ⟨hc2, -⟩ := bcell hb2
  have hB2 : Below w.heap.size w w2 := hB1.trans (hb2.mono hB1.size)
  have t1 : w2.cell? ⟨w.heap.size, 1, none⟩ = some (.int .i64 Q) := (hc2 _ _ (by simpa using hz0)).trans s1
  have hz2 : w.heap.size < w2.heap.size := Nat.lt_of_lt_of_le hz0 hb2.size
  clear hc2 s0 s1 hb1 hB1 hz0
  have HC2 := Lib.hid (HC.out s)
  have n2 : w.heap.size ≠ w2.heap.size := by omega
  go_wp2_with fail
  go_region_held3 (fun w' => w'.cell? ⟨w.heap.size, 1, none⟩ = some (.int .i64 Q)) (first | exact q4 | exact q2 | exact (World.cell?_setCell_far _ _ _ _ (Ne.symm n3)).trans q4 | exact (World.cell?_setCell_far _ _ _ _ (Ne.symm n2)).trans q4 | go_keep) (first | (go_at_call 29; refine (HL.out _).mono ?_; rintro e w3 ⟨v, rfl, hown, hb3⟩; obtain ⟨hc3, hf3⟩ := bcell hb3; (first | (have z3 := (show w3.cell? ⟨w2.heap.size, 0, none⟩ = some (.int .i64 0) from (boxKeepD hb3).1); have f3 := (show w3.frozen? ⟨w2.heap.size, 0, none⟩ = false from (boxKeepD hb3).2.1); have l3 := (show w2.heap.size < w3.heap.size from (boxKeepD hb3).2.2)) | skip); have n3 := (show w.heap.size ≠ w3.heap.size from by have := hb3.size; simp at this; omega); clear hf3; have q2 : w3.cell? ⟨w.heap.size, 1, none⟩ = some (.int .i64 Q) := (hc3 _ _ (by simp; omega)).trans (by first | exact t1 | (go_simp; exact t1) | (simp [*])); clear hc3; obtain ⟨A, cap, rfl, -, -, hat⟩ := own_view hown; have HAt := Lib.hid hat; have HB3 := Lib.hid hb3; clear hown hat hb3) | (go_at_call 28; refine (HC2.out _ _ _ _ (by first | exact HAt.out | exact HAt.out.below ((Below.refl _ _).alloc (Nat.le_refl _) _))).mono ?_; rintro e w4 ⟨rfl, hb4⟩; obtain ⟨hc4, hf4⟩ := bcell hb4; (first | (have z4 := (show w4.cell? ⟨w3.heap.size, 0, none⟩ = some (.int .i64 0) from (boxKeep hb4).1); have f4 := (show w4.frozen? ⟨w3.heap.size, 0, none⟩ = false from (boxKeep hb4).2.1); have l4 := (show w3.heap.size < w4.heap.size from (boxKeep hb4).2.2)) | (have z4 := (hc4 _ _ l3).trans z3; have f4 := (hf4 _ _ l3).trans f3) | skip); have n4 := (show w.heap.size ≠ w4.heap.size from by have h1 := HB3.out.size; have h2 := hb4.size; simp at h1 h2; omega); clear hf4; have q4 : w4.cell? ⟨w.heap.size, 1, none⟩ = some (.int .i64 Q) := (hc4 _ _ (by have := HB3.out.size; simp at *; omega)).trans (by first | exact q2 | (go_simp; exact q2) | (simp [*])); clear hc4; have HB4 := Lib.hid hb4; clear hb4))
  all_goals first
    | (have h3 := hB2.trans ((show Below w2.heap.size w2 w3 from ⟨HB3.out.os, HB3.out.tape, HB3.out.output, HB3.out.size, HB3.out.block⟩).mono hB2.size)
       have h4 := h3.trans (HB4.out.mono h3.size)
       have hBF := h4.alloc h4.size (.cells #[(.int .i64 (cosetI (N : Int) (lineL N) Q s))] 2)
       have hlt : w4.heap.size < (w4.alloc (.cells #[(.int .i64 (cosetI (N : Int) (lineL N) Q s))] 2)).heap.size := by simp
       have hcell : (w4.alloc (.cells #[(.int .i64 (cosetI (N : Int) (lineL N) Q s))] 2)).cell? ⟨w4.heap.size, 0, none⟩ = some (.int .i64 (cosetI (N : Int) (lineL N) Q s)) := by simp
       clear h3 h4 HB3 HB4
       obtain ⟨WF, hWF⟩ : ∃ x, x = w4.alloc (.cells #[(.int .i64 (cosetI (N : Int) (lineL N) Q s))] 2) := ⟨_, rfl⟩
       obtain ⟨bx, hbx⟩ : ∃ x, x = w4.heap.size := ⟨_, rfl⟩
       rw [← hWF, ← hbx] at hlt hcell
       rw [← hWF] at hBF ⊢
       rw [← hbx]
       clear hWF hbx)
    | (have h3 := hB2.trans ((show Below w2.heap.size w2 w3 from ⟨HB3.out.os, HB3.out.tape, HB3.out.output, HB3.out.size, HB3.out.block⟩).mono hB2.size)
       have h4 := bfin (h3.alloc h3.size _) HB4.out
       have hBF := Below.setCell h4 (p := ⟨w3.heap.size, 0, none⟩) h3.size (.int .i64 (cosetI (N : Int) (lineL N) Q s))
       have hcell : (w4.setCell ⟨w3.heap.size, 0, none⟩ (.int .i64 (cosetI (N : Int) (lineL N) Q s))).cell? ⟨w3.heap.size, 0, none⟩ = some (.int .i64 (cosetI (N : Int) (lineL N) Q s)) := World.cell?_setCell_same' _ _ _ (by rw [z4]; rfl)
       have hlt : w3.heap.size < (w4.setCell ⟨w3.heap.size, 0, none⟩ (.int .i64 (cosetI (N : Int) (lineL N) Q s))).heap.size := by simpa using l4
       clear h3 h4 HB3 HB4
       obtain ⟨WF, hWF⟩ : ∃ x, x = w4.setCell ⟨w3.heap.size, 0, none⟩ (.int .i64 (cosetI (N : Int) (lineL N) Q s)) := ⟨_, rfl⟩
       obtain ⟨bx, hbx⟩ : ∃ x, x = w3.heap.size := ⟨_, rfl⟩
       rw [← hWF] at hlt hcell hBF ⊢
       rw [← hbx] at hlt hcell ⊢
       clear hWF hbx)
    | (have h2 := hB2.alloc hB2.size (.cells #[(.int .i64 0)] 2)
       have h3 := bfin (W1 := w3) h2 ⟨HB3.out.os, HB3.out.tape, HB3.out.output, HB3.out.size, HB3.out.block⟩
       have h4 := h3.trans (HB4.out.mono h3.size)
       have hBF := Below.setCell h4 (p := ⟨w2.heap.size, 0, none⟩) hB2.size (.int .i64 (cosetI (N : Int) (lineL N) Q s))
       have hcell : (w4.setCell ⟨w2.heap.size, 0, none⟩ (.int .i64 (cosetI (N : Int) (lineL N) Q s))).cell? ⟨w2.heap.size, 0, none⟩ = some (.int .i64 (cosetI (N : Int) (lineL N) Q s)) := World.cell?_setCell_same' _ _ _ (by rw [z4]; rfl)
       have hlt : w2.heap.size < (w4.setCell ⟨w2.heap.size, 0, none⟩ (.int .i64 (cosetI (N : Int) (lineL N) Q s))).heap.size := by simpa using Nat.lt_of_lt_of_le l3 HB4.out.size
       clear h2 h3 h4 HB3 HB4
       obtain ⟨WF, hWF⟩ : ∃ x, x = w4.setCell ⟨w2.heap.size, 0, none⟩ (.int .i64 (cosetI (N : Int) (lineL N) Q s)) := ⟨_, rfl⟩
       obtain ⟨bx, hbx⟩ : ∃ x, x = w2.heap.size := ⟨_, rfl⟩
       rw [← hWF] at hlt hcell hBF ⊢
       rw [← hbx] at hlt hcell ⊢
       clear hWF hbx)
  all_goals
    obtain ⟨m, hm, hmC, hC, hrl, hit, hmiss⟩ := cusp_rows (N := N) N0 (by omega) hrs
    have HHit := Lib.hid (And.intro hit hmiss)
    have HRL := Lib.hid hrl
    have HVal := Lib.hid hm
    clear hit hmiss hrl hm
    generalize cosetI (N : Int) (lineL N) Q s = c at *
    generalize cusL (cosP (N : Int)) = X at *
    go_wp2_with fail
    refine (HU.out _).mono ?_; rintro e w6 ⟨v, inn, rfl, hs, hb6⟩
    have HRow := Lib.hid (rowOf_any v X.length _ m bx inn X c w6 hmC hC HRL.out HHit.out.1 HHit.out.2 hs (Nat.lt_of_lt_of_le hlt hb6.size) (by rw [hb6.cell (p := ⟨bx, 0, none⟩) hlt]; exact hcell))
    clear hs
    go_wp2_with fail
    refine HRow.out.mono ?_; rintro e w7 ⟨rfl, hb7⟩
    go_wp2_with fail
    go_ret2
    exact ⟨⟨r, s, hrs, by rw [HVal.out]; rfl⟩, (hBF.trans (hb6.mono hBF.size)).trans (hb7.mono (Nat.le_trans hBF.size hb6.size))⟩
set_option maxRecDepth 100000 in
set_option maxHeartbeats 2000000 in
theorem sCuspOfFraction_any (n P Q : Int) (w : World) :
    Calls Try.prog 7 #[(.int .i64 n), (.agg #[.int .i64 P, .int .i64 Q])] w fun e w' => (if isFrac P Q = true then (if inB n 1 60 = true then ∃ r s, P * s - Q * r = 1 ∧ e = .returned (.tuple #[(.int .i64 (cuspV n Q s)), (.int .i64 0)]) else e = .returned (.tuple #[(.int .i64 0), (.int .i64 2)])) else e = .returned (.tuple #[(.int .i64 0), (.int .i64 1)])) ∧ Below w.heap.size w w' := by
  have HF := Lib.hid (fun W => l01Fraction_any P Q W)
  have H1 := Lib.hid (fun W => l01In_any n 1 60 W)
  cases hf : isFrac P Q
  · simp only [Bool.false_eq_true, if_false]
    rw [hf] at HF
    go_enter Try.func7, Try.ntmps7
    go_wp2_with fail
    refine (HF.out _).mono ?_; rintro e w1 ⟨rfl, hb1⟩
    obtain ⟨hc1, hf1⟩ := bcell hb1
    have hB1 : Below w.heap.size w w1 := bfin (by go_grown) hb1
    go_wp2_with fail
    go_ret2
    exact ⟨rfl, by go_grown⟩
  simp only [if_true]
  rw [hf] at HF
  cases hn : inB n 1 60
  · simp only [Bool.false_eq_true, if_false]
    rw [hn] at H1
    go_enter Try.func7, Try.ntmps7
    go_wp2_with fail
    refine (HF.out _).mono ?_; rintro e w1 ⟨rfl, hb1⟩
    obtain ⟨hc1, hf1⟩ := bcell hb1
    go_wp2_with fail
    refine (H1.out _).mono ?_; rintro e w' ⟨rfl, rfl⟩
    have hB1 : Below w.heap.size w w1 := bfin (by go_grown) hb1
    go_wp2_with fail
    go_ret2
    exact ⟨rfl, by go_grown⟩
  simp only [if_true]
  rw [hn] at H1
  obtain ⟨n0, n1⟩ := inB_iff.1 hn
  obtain ⟨⟨p0, p1⟩, ⟨q0, q1⟩, hg, h0⟩ := isFrac_iff.1 hf
  clear hn hf
  obtain ⟨N, rfl⟩ := Int.eq_ofNat_of_zero_le (show 0 ≤ n by omega)
  have N0 : 0 < N := by omega
  have HB := Lib.hid (fun W => l06Bottom_any P Q W (by omega) q0 q1 hg h0)
  have hl : (lineL (N : Int)).length ≤ 4000 := by have := lineL_len (n := (N : Int)) (by omega); omega
  have HL := Lib.hid (fun W => l06Line_any N W N0 (by omega))
  have HU := Lib.hid (fun v B inn W h => l06Cusps_any N v B inn W N0 (by omega) h)
  have HC := Lib.hid (fun d v B inn W hp h => l06Number_any N v B (lineL N) inn Q d W N0 (by omega) hl hp h)
  obtain ⟨hcI, hcL⟩ := cusN_bd N0 (show N ≤ 60 by omega)
  have HCI := Lib.hid hcI
  clear hcI
  rw [← cosP_len] at HU
  go_enter Try.func7, Try.ntmps7
  go_wp2_with fail
  refine (HF.out _).mono ?_; rintro e w1 ⟨rfl, hb1⟩
  obtain ⟨hc1, hf1⟩ := bcell hb1
  go_wp2_with fail
  refine (H1.out _).mono ?_; rintro e w' ⟨rfl, rfl⟩
  have hz0 : w.heap.size < w1.heap.size := by have := hb1.size; (try simp at this); omega
  go_wp2_with fail
  have hB1 : Below w.heap.size w w1 := bfin (by go_grown) hb1
  have s0 : w1.cell? ⟨w.heap.size, 0, none⟩ = some (.int .i64 P) := by rw [hc1 _ _ (by simp)]; go_simp
  have s1 : w1.cell? ⟨w.heap.size, 1, none⟩ = some (.int .i64 Q) := by rw [hc1 _ _ (by simp)]; go_simp
  clear hc1 hf1
  refine (HL.out _).mono ?_; rintro e w2 ⟨v, inn, rfl, hown, hb2⟩
  obtain ⟨hc2, -⟩ := bcell hb2
  have hB2 : Below w.heap.size w w2 := hB1.trans (hb2.mono hB1.size)
  have t0 : w2.cell? ⟨w.heap.size, 0, none⟩ = some (.int .i64 P) := (hc2 _ _ hz0).trans s0
  have t1 : w2.cell? ⟨w.heap.size, 1, none⟩ = some (.int .i64 Q) := (hc2 _ _ hz0).trans s1
  have hz2 : w.heap.size < w2.heap.size := Nat.lt_of_lt_of_le hz0 hb2.size
  have HO := Lib.hid hown
  clear hc2 s0 s1 hb1 hB1 hz0 hb2 hown
  go_wp2_with fail
  refine (HU.out _ _ _ _ HO.out).mono ?_; rintro e w3 ⟨u, rfl, ho3, hb3⟩
  obtain ⟨hc3, -⟩ := bcell hb3
  have hB3 : Below w.heap.size w w3 := hB2.trans (hb3.mono hB2.size)
  have u0 : w3.cell? ⟨w.heap.size, 0, none⟩ = some (.int .i64 P) := (hc3 _ _ hz2).trans t0
  have u1 : w3.cell? ⟨w.heap.size, 1, none⟩ = some (.int .i64 Q) := (hc3 _ _ hz2).trans t1
  have hz3 : w.heap.size < w3.heap.size := Nat.lt_of_lt_of_le hz2 hb3.size
  have HO3 := Lib.hid (HO.out.below hb3)
  clear hc3 t0 t1 hB2 hb3 HO
  obtain ⟨A, cap, rfl, hcap, hmax, hat⟩ := own_view ho3
  unfold maxLen at hmax
  obtain ⟨bb, rfl, -, hbl, hcc, -⟩ := hat (by
    obtain ⟨k, hk, -, -⟩ := coset_get (c := 0) (d := 1) N0 (pair_det (a := 1) (b := 0) (by rfl))
    rw [cosP_len]; omega)
  have HX := Lib.hid (fun (k : Nat) (hk : k < (lineL (N : Int)).length) => hcc k (.int .i64 ((cusN (cosP N) (cosP N).length).1.getD k 0)) (ints_at (by rw [HCI.out.len, cosP_len]; exact hk)))
  clear hcc hat ho3
  go_wp2_with fail
  have n3 : w.heap.size ≠ w3.heap.size := by omega
  go_region_held3 (fun w' => w'.cell? ⟨w.heap.size, 0, none⟩ = some (.int .i64 P) ∧ w'.cell? ⟨w.heap.size, 1, none⟩ = some (.int .i64 Q) ∧ ∀ k : Nat, k < (lineL (N : Int)).length → w'.cell? ⟨bb, k, none⟩ = some (.int .i64 ((cusN (cosP N) (cosP N).length).1.getD k 0))) (first | exact ⟨q50, q51, g5⟩ | exact ⟨q40, q41, g4⟩ | exact ⟨u0, u1, HX.out⟩ | go_keep) (first | (go_at_call 39; refine (HB.out _).mono ?_; rintro e w4 ⟨r, s, rfl, hrs, hb4⟩; obtain ⟨hc4, -⟩ := bcell hb4; have q40 := (hc4 _ _ hz3).trans u0; have q41 := (hc4 _ _ hz3).trans u1; have hp : isPairB N (Q % N) (s % N) = true := pair_det (a := P) (b := r) (by rw [Int.mul_comm r]; exact hrs); obtain ⟨k, hk, hkc, -⟩ := coset_get N0 hp; have g4 := (show ∀ k : Nat, k < (lineL (N : Int)).length → w4.cell? ⟨bb, k, none⟩ = some (.int .i64 ((cusN (cosP N) (cosP N).length).1.getD k 0)) from fun k hk => (hc4 _ _ hbl).trans (HX.out k hk)); have hk' : k < (cosP (N : Int)).length := (by rw [cosP_len]; exact hk); have BF := (show Below w3.heap.size w3 w4 from ⟨hb4.os, hb4.tape, hb4.output, hb4.size, hb4.block⟩); have HC2 := Lib.hid (HC.out s _ _ _ w4 hp (HO3.out.below BF)); rw [hkc] at HC2; have hbl4 := Nat.lt_of_lt_of_le hbl hb4.size; have hz4 := Nat.lt_of_lt_of_le hz3 hb4.size; have HBF := Lib.hid BF; have HKC := Lib.hid hkc; have HRS := Lib.hid hrs; clear hc4 hb4 hkc hrs BF hp) | (go_at_call 38; refine HC2.out.mono ?_; rintro e w5 ⟨rfl, hb5⟩; obtain ⟨hc5, -⟩ := bcell hb5; have q50 := (hc5 _ _ hz4).trans q40; have q51 := (hc5 _ _ hz4).trans q41; have g5 := (show ∀ k : Nat, k < (lineL (N : Int)).length → w5.cell? ⟨bb, k, none⟩ = some (.int .i64 ((cusN (cosP N) (cosP N).length).1.getD k 0)) from fun k hk => (hc5 _ _ hbl4).trans (g4 k hk)); have HB5 := Lib.hid hb5; clear hc5 hb5))
  go_wp2_with fail
  go_ret2
  exact ⟨⟨r, s, HRS.out, by unfold cuspV; rw [HKC.out]; rfl⟩, (hB3.trans (HBF.out.mono hB3.size)).trans (HB5.out.mono (Nat.le_trans hB3.size HBF.out.size))⟩
end Go.Proofs.Ytjkemnnkgihefaa
