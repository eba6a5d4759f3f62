/- Contracts: rests, quotients, greatest common divisors, kinds. -/
import Derived.Test.YtencfmipplgnkaaC2
import Derived.Test.YtencfmipplgnkaaNa
import Derived.Test.YtencfmipplgnkaaReg
namespace Go.Proofs.Ytencfmipplgnkaa
open Go.RowKit
attribute [local go_sem] eqMat
set_option maxHeartbeats 400000 in
theorem divisor_any (a b : Int) (w : World) (a0 : -9000000000000000000 ≤ a) (a1 : a ≤ 9000000000000000000) (b0 : -9000000000000000000 ≤ b) (b1 : b ≤ 9000000000000000000) :
    Calls Try.prog 101 #[(.int .i64 a), (.int .i64 b)] w fun e w' => e = .returned (.int .i64 ((Int.gcd a b : Int))) ∧ Below w.heap.size w w' := by
  go_enter Try.func101, Try.ntmps101
  go_wp2
  go_loopw [0, 1] (fun x y wr => ∃ p q : Int, x = (.int .i64 p) ∧ y = (.int .i64 q) ∧ (-9000000000000000000 ≤ p ∧ p ≤ 9000000000000000000 ∧ -9000000000000000000 ≤ q ∧ q ≤ 9000000000000000000) ∧ Hid (Int.gcd p q = Int.gcd a b) ∧ Below w.heap.size w wr) (fun _ y _ => (intOf y).natAbs)
  case atStart => exact ⟨_, _, rfl, rfl, ⟨a0, a1, b0, b1⟩, Lib.hid rfl, Below.refl _ _⟩
  case round =>
    obtain ⟨p, q, rfl, rfl, ⟨p0, p1, q0, q1⟩, hg, hb⟩ := hrel
    by_cases hq : q = 0
    · subst hq
      go_wp2_with fail
      refine (size_any _ _ p0 p1).mono ?_; rintro e w' ⟨rfl, rfl⟩
      go_wp2_with fail
      go_ret
      exact ⟨ret_int (by rw [← hg.out]; simp), hb⟩
    · have hl := @tmod_lt p q hq
      have hs := @tmod_small p q 9000000000000000000 hq q0 q1
      go_wp2_with fail
      go_quiet (fail)
      go_wp2_with fail
      go_roundw
      case rel => exact ⟨_, _, rfl, rfl, ⟨q0, q1, hs.1, hs.2⟩, Lib.hid (by rw [gcd_step hq]; exact hg.out), below_drewN hb _⟩
      case measure => simpa [intOf] using hl
set_option maxHeartbeats 400000 in
theorem l01Gcd_any (a b : Int) (w : World) (a0 : -9000000000000000000 ≤ a) (a1 : a ≤ 9000000000000000000) (b0 : -9000000000000000000 ≤ b) (b1 : b ≤ 9000000000000000000) :
    Calls Try.prog 95 #[(.int .i64 a), (.int .i64 b)] w fun e w' => e = .returned (.int .i64 ((Int.gcd a b : Int))) ∧ Below w.heap.size w w' := by
  go_enter Try.func95, Try.ntmps95
  go_wp2
  go_loopw [0, 1] (fun x y wr => ∃ p q : Int, x = (.int .i64 p) ∧ y = (.int .i64 q) ∧ (-9000000000000000000 ≤ p ∧ p ≤ 9000000000000000000 ∧ -9000000000000000000 ≤ q ∧ q ≤ 9000000000000000000) ∧ Hid (Int.gcd p q = Int.gcd a b) ∧ Below w.heap.size w wr) (fun _ y _ => (intOf y).natAbs)
  case atStart => exact ⟨_, _, rfl, rfl, ⟨a0, a1, b0, b1⟩, Lib.hid rfl, Below.refl _ _⟩
  case round =>
    obtain ⟨p, q, rfl, rfl, ⟨p0, p1, q0, q1⟩, hg, hb⟩ := hrel
    by_cases hq : q = 0
    · subst hq
      by_cases hp : p < 0
      all_goals
        go_wp2_with fail
        go_ret
        exact ⟨ret_int (by rw [← hg.out]; simp; omega), hb⟩
    · have hl := @tmod_lt p q hq
      have hs := @tmod_small p q 9000000000000000000 hq q0 q1
      go_wp2_with fail
      go_roundw
      case rel => exact ⟨_, _, rfl, rfl, ⟨q0, q1, hs.1, hs.2⟩, Lib.hid (by rw [gcd_step hq]; exact hg.out), hb⟩
      case measure => simpa [intOf] using hl
theorem rest_any (a n : Int) (w : World) (n0 : 0 < n) (n1 : n ≤ 4000000000000000000) :
    Calls Try.prog 111 #[(.int .i64 a), (.int .i64 n)] w fun e w' => e = .returned (.int .i64 (a % n)) ∧ w = w' := by
  obtain ⟨h1, h2⟩ := @tmod_bd a n n0
  have h3 : n ≠ 0 := by omega
  go_enter Try.func111, Try.ntmps111
  go_wp2
  go_ret
  exact ⟨ret_int (rest_eq' n0), rfl⟩
theorem l01Mod_any (a n : Int) (w : World) (n0 : 0 < n) (n1 : n ≤ 4000000000000000000) :
    Calls Try.prog 99 #[(.int .i64 a), (.int .i64 n)] w fun e w' => e = .returned (.int .i64 (a % n)) ∧ w = w' := by
  obtain ⟨h1, h2⟩ := @tmod_bd a n n0
  have h3 : n ≠ 0 := by omega
  go_enter Try.func99, Try.ntmps99
  go_wp2
  go_ret
  exact ⟨ret_int (rest_eq' n0), rfl⟩
theorem floor_any (a b : Int) (w : World) (a0 : -9000000000000000000 ≤ a) (a1 : a ≤ 9000000000000000000) (b0 : 0 < b) (b1 : b ≤ 9000000000000000000) :
    Calls Try.prog 142 #[(.int .i64 a), (.int .i64 b)] w fun e w' => e = .returned (.int .i64 (a / b)) ∧ w = w' := by
  have hne : b ≠ 0 := by omega
  have hb1 : -9223372036854775808 ≤ a.tdiv b - 1 ∧ a.tdiv b ≤ 9223372036854775807 := by
    have := Int.natAbs_tdiv a b
    have h2 : a.natAbs / b.natAbs ≤ a.natAbs := Nat.div_le_self _ _
    have h3 : (a.tdiv b).natAbs = a.natAbs / b.natAbs := by rw [this]; rfl
    omega
  obtain ⟨hb2, hb3⟩ := hb1
  have hb4 : ¬ b < 0 := by omega
  by_cases hz : a.tmod b = 0
  · have hz' : (a.tmod b != 0) = false := by simp [hz]
    have HZ := Lib.hid hz
    clear hz
    by_cases ha : a < 0
    all_goals
      go_enter Try.func142, Try.ntmps142
      go_wp2
      all_goals
        go_ret
        exact ⟨ret_int (by first | rfl | exact floor_z HZ.out), rfl⟩
  · have hz' : (a.tmod b != 0) = true := by simp [hz]
    by_cases ha : a < 0
    · go_enter Try.func142, Try.ntmps142
      go_wp2
      go_ret
      exact ⟨ret_int (floor_t b0 hz ha), rfl⟩
    · go_enter Try.func142, Try.ntmps142
      go_wp2
      all_goals
        go_ret
        exact ⟨ret_int (by first | rfl | exact floor_p (by omega)), rfl⟩
theorem l01Floor_any (a b : Int) (w : World) (a0 : -4000000000000000000 ≤ a) (a1 : a ≤ 4000000000000000000) (b0 : 0 < b) (b1 : b ≤ 4000000000000000000) :
    Calls Try.prog 98 #[(.int .i64 a), (.int .i64 b)] w fun e w' => e = .returned (.int .i64 (a / b)) ∧ w = w' := by
  have h1 := Int.emod_nonneg a (show b ≠ 0 by omega)
  have h2 := Int.emod_lt_of_pos a b0
  have h3 : b ≠ 0 := by omega
  have he : (a - a % b).tdiv b = a / b := by
    have e : a - a % b = b * (a / b) := by have := Int.emod_def a b; omega
    rw [e, Int.mul_tdiv_cancel_left _ h3]
  obtain ⟨h4, h5⟩ := @ediv_bd a b 4000000000000000000 b0 a0 a1
  go_enter Try.func98, Try.ntmps98
  go_wp2_with fail
  refine (l01Mod_any _ _ _ b0 (by omega)).mono ?_; rintro e w' ⟨rfl, rfl⟩
  go_wp2
  go_ret
  exact ⟨rfl, rfl⟩
theorem negId_any (w : World) : Calls Try.prog 69 #[(.agg #[.int .i64 1, .int .i64 0, .int .i64 0, .int .i64 1])] w fun e w' => e = .returned (.agg #[.int .i64 (-1), .int .i64 0, .int .i64 0, .int .i64 (-1)]) ∧ Below w.heap.size w w' :=
  negative_any 1 0 0 1 w (by omega) (by omega) (by omega) (by omega) (by omega) (by omega) (by omega) (by omega)
set_option maxRecDepth 100000 in
set_option maxHeartbeats 1000000 in
theorem kind_any (a b c d : Int) (w : World) (h : IsMat a b c d) :
    Calls Try.prog 115 #[(.agg #[.int .i64 a, .int .i64 b, .int .i64 c, .int .i64 d])] w fun e w' => e = .returned (.int .i64 (kindOf a b c d)) ∧ Below w.heap.size w w' := by
  have hM := h
  obtain ⟨a0, a1, b0, b1, c0, c1, d0, d1, det⟩ := h
  cases hi : (a == 1 && (b == 0 && (c == 0 && d == 1)))
  · cases hj : (a == -1 && (b == 0 && (c == 0 && d == -1)))
    · have hk : kindOf a b c d = if (a + d).natAbs < 2 then 1 else if (a + d).natAbs = 2 then 2 else 3 := by
        unfold kindOf
        rw [if_neg]
        rintro ⟨rfl, rfl⟩
        rcases diag det rfl rfl with ⟨rfl, rfl⟩ | ⟨rfl, rfl⟩ <;> simp at hi hj
      have HK := Lib.hid hk
      clear hk det
      have ht : ((((a + d).natAbs : Int) < 2 ∧ kindOf a b c d = 1) ∨ ((((a + d).natAbs : Int) == 2) = true ∧ ¬ ((a + d).natAbs : Int) < 2 ∧ kindOf a b c d = 2)) ∨ ((((a + d).natAbs : Int) == 2) = false ∧ ¬ ((a + d).natAbs : Int) < 2 ∧ kindOf a b c d = 3) := by
        rw [HK.out]
        by_cases h1 : (a + d).natAbs < 2
        · left; left; exact ⟨by omega, if_pos h1⟩
        · by_cases h2 : (a + d).natAbs = 2
          · left; right; exact ⟨by simp; omega, by omega, by rw [if_neg h1, if_pos h2]⟩
          · right; exact ⟨by simp; omega, by omega, by rw [if_neg h1, if_neg h2]⟩
      clear HK
      rcases ht with (⟨h1, hk⟩ | ⟨h2, h1, hk⟩) | ⟨h2, h1, hk⟩
      · rw [hk]
        clear hk
        go_enter Try.func115, Try.ntmps115
        go_wp2_with fail
        refine (trace_any _ _ _ _ _ hM).mono ?_; rintro e w1 ⟨rfl, hb1⟩
        obtain ⟨hc1, hf1⟩ := bcell hb1
        go_wp2_with fail
        refine (size_any _ _ (by omega) (by omega)).mono ?_; rintro e w' ⟨rfl, rfl⟩
        have hz0 : w.heap.size < w1.heap.size := by have := hb1.size; (try simp at this); omega
        go_wp2_with fail
        have hB1 : Below w.heap.size w w1 := bfin (by go_grown) hb1
        refine wp_region_ord [(0, false), (1, false), (2, false), (3, false), (4, false), (5, false), (6, false), (7, false), (8, false), (9, false)] (by kernel_rfl) (by kernel_rfl) ?_
        refine ord_q (o := ?o_1) (v := ?v_1) ?ho_1 ?hw_1 ?hq_1 ?_
        case ho_1 => simp only [List.getElem?_toArray, List.getElem?_cons_zero]; rfl
        case hw_1 => rfl
        case hq_1 =>
          intro W1 hW1
          obtain ⟨hcw, hfw⟩ := bcell hW1
          go_simp
          first | (go_at_call 143; exact identity_any _) | (go_at_call 69; exact negId_any _) | rfl
        simp only [Act.put, List.setIfInBounds_toArray, List.set_cons_zero, List.set_cons_succ]
        refine ord_q (o := ?o_2) (v := ?v_2) ?ho_2 ?hw_2 ?hq_2 ?_
        case ho_2 => simp only [List.getElem?_toArray, List.getElem?_cons_succ, List.getElem?_cons_zero]; rfl
        case hw_2 => rfl
        case hq_2 =>
          intro W1 hW1
          obtain ⟨hcw, hfw⟩ := bcell hW1
          go_simp
          first | (go_at_call 143; exact identity_any _) | (go_at_call 69; exact negId_any _) | rfl
        simp only [Act.put, List.setIfInBounds_toArray, List.set_cons_zero, List.set_cons_succ]
        refine ord_q (o := ?o_3) (v := ?v_3) ?ho_3 ?hw_3 ?hq_3 ?_
        case ho_3 => simp only [List.getElem?_toArray, List.getElem?_cons_succ, List.getElem?_cons_zero]; rfl
        case hw_3 => rfl
        case hq_3 =>
          intro W1 hW1
          obtain ⟨hcw, hfw⟩ := bcell hW1
          go_simp
          first | (go_at_call 143; exact identity_any _) | (go_at_call 69; exact negId_any _) | rfl
        simp only [Act.put, List.setIfInBounds_toArray, List.set_cons_zero, List.set_cons_succ]
        refine ord_q (o := ?o_4) (v := ?v_4) ?ho_4 ?hw_4 ?hq_4 ?_
        case ho_4 => simp only [List.getElem?_toArray, List.getElem?_cons_succ, List.getElem?_cons_zero]; rfl
        case hw_4 => rfl
        case hq_4 =>
          intro W1 hW1
          obtain ⟨hcw, hfw⟩ := bcell hW1
          go_simp
          first | (go_at_call 143; exact identity_any _) | (go_at_call 69; exact negId_any _) | rfl
        simp only [Act.put, List.setIfInBounds_toArray, List.set_cons_zero, List.set_cons_succ]
        refine ord_q (o := ?o_5) (v := ?v_5) ?ho_5 ?hw_5 ?hq_5 ?_
        case ho_5 => simp only [List.getElem?_toArray, List.getElem?_cons_succ, List.getElem?_cons_zero]; rfl
        case hw_5 => rfl
        case hq_5 =>
          intro W1 hW1
          obtain ⟨hcw, hfw⟩ := bcell hW1
          go_simp
          first | (go_at_call 143; exact identity_any _) | (go_at_call 69; exact negId_any _) | rfl
        simp only [Act.put, List.setIfInBounds_toArray, List.set_cons_zero, List.set_cons_succ]
        refine ord_q (o := ?o_6) (v := ?v_6) ?ho_6 ?hw_6 ?hq_6 ?_
        case ho_6 => simp only [List.getElem?_toArray, List.getElem?_cons_succ, List.getElem?_cons_zero]; rfl
        case hw_6 => rfl
        case hq_6 =>
          intro W1 hW1
          obtain ⟨hcw, hfw⟩ := bcell hW1
          go_simp
          first | (go_at_call 143; exact identity_any _) | (go_at_call 69; exact negId_any _) | rfl
        simp only [Act.put, List.setIfInBounds_toArray, List.set_cons_zero, List.set_cons_succ]
        refine ord_q (o := ?o_7) (v := ?v_7) ?ho_7 ?hw_7 ?hq_7 ?_
        case ho_7 => simp only [List.getElem?_toArray, List.getElem?_cons_succ, List.getElem?_cons_zero]; rfl
        case hw_7 => rfl
        case hq_7 =>
          intro W1 hW1
          obtain ⟨hcw, hfw⟩ := bcell hW1
          go_simp
          first | (go_at_call 143; exact identity_any _) | (go_at_call 69; exact negId_any _) | rfl
        simp only [Act.put, List.setIfInBounds_toArray, List.set_cons_zero, List.set_cons_succ]
        refine ord_q (o := ?o_8) (v := ?v_8) ?ho_8 ?hw_8 ?hq_8 ?_
        case ho_8 => simp only [List.getElem?_toArray, List.getElem?_cons_succ, List.getElem?_cons_zero]; rfl
        case hw_8 => rfl
        case hq_8 =>
          intro W1 hW1
          obtain ⟨hcw, hfw⟩ := bcell hW1
          go_simp
          first | (go_at_call 143; exact identity_any _) | (go_at_call 69; exact negId_any _) | rfl
        simp only [Act.put, List.setIfInBounds_toArray, List.set_cons_zero, List.set_cons_succ]
        refine ord_q (o := ?o_9) (v := ?v_9) ?ho_9 ?hw_9 ?hq_9 ?_
        case ho_9 => simp only [List.getElem?_toArray, List.getElem?_cons_succ, List.getElem?_cons_zero]; rfl
        case hw_9 => rfl
        case hq_9 =>
          intro W1 hW1
          obtain ⟨hcw, hfw⟩ := bcell hW1
          go_simp
          first | (go_at_call 143; exact identity_any _) | (go_at_call 69; exact negId_any _) | rfl
        simp only [Act.put, List.setIfInBounds_toArray, List.set_cons_zero, List.set_cons_succ]
        refine ord_q (o := ?o_10) (v := ?v_10) ?ho_10 ?hw_10 ?hq_10 ?_
        case ho_10 => simp only [List.getElem?_toArray, List.getElem?_cons_succ, List.getElem?_cons_zero]; rfl
        case hw_10 => rfl
        case hq_10 =>
          intro W1 hW1
          obtain ⟨hcw, hfw⟩ := bcell hW1
          go_simp
          first | (go_at_call 143; exact identity_any _) | (go_at_call 69; exact negId_any _) | rfl
        simp only [Act.put, List.setIfInBounds_toArray, List.set_cons_zero, List.set_cons_succ]
        intro w2 hw2
        have hb2 := hw2.below
        clear hw2
        obtain ⟨hc2, hf2⟩ := bcell hb2
        have hB : Below w.heap.size w w2 := bfin hB1 hb2
        go_wp2_with fail
        go_ret
        exact ⟨rfl, hB⟩
      · rw [hk]
        clear hk
        go_enter Try.func115, Try.ntmps115
        go_wp2_with fail
        refine (trace_any _ _ _ _ _ hM).mono ?_; rintro e w1 ⟨rfl, hb1⟩
        obtain ⟨hc1, hf1⟩ := bcell hb1
        go_wp2_with fail
        refine (size_any _ _ (by omega) (by omega)).mono ?_; rintro e w' ⟨rfl, rfl⟩
        have hz0 : w.heap.size < w1.heap.size := by have := hb1.size; (try simp at this); omega
        go_wp2_with fail
        have hB1 : Below w.heap.size w w1 := bfin (by go_grown) hb1
        refine wp_region_ord [(0, false), (1, false), (2, false), (3, false), (4, false), (5, false), (6, false), (7, false), (8, false), (9, false)] (by kernel_rfl) (by kernel_rfl) ?_
        refine ord_q (o := ?o_11) (v := ?v_11) ?ho_11 ?hw_11 ?hq_11 ?_
        case ho_11 => simp only [List.getElem?_toArray, List.getElem?_cons_zero]; rfl
        case hw_11 => rfl
        case hq_11 =>
          intro W1 hW1
          obtain ⟨hcw, hfw⟩ := bcell hW1
          go_simp
          first | (go_at_call 143; exact identity_any _) | (go_at_call 69; exact negId_any _) | rfl
        simp only [Act.put, List.setIfInBounds_toArray, List.set_cons_zero, List.set_cons_succ]
        refine ord_q (o := ?o_12) (v := ?v_12) ?ho_12 ?hw_12 ?hq_12 ?_
        case ho_12 => simp only [List.getElem?_toArray, List.getElem?_cons_succ, List.getElem?_cons_zero]; rfl
        case hw_12 => rfl
        case hq_12 =>
          intro W1 hW1
          obtain ⟨hcw, hfw⟩ := bcell hW1
          go_simp
          first | (go_at_call 143; exact identity_any _) | (go_at_call 69; exact negId_any _) | rfl
        simp only [Act.put, List.setIfInBounds_toArray, List.set_cons_zero, List.set_cons_succ]
        refine ord_q (o := ?o_13) (v := ?v_13) ?ho_13 ?hw_13 ?hq_13 ?_
        case ho_13 => simp only [List.getElem?_toArray, List.getElem?_cons_succ, List.getElem?_cons_zero]; rfl
        case hw_13 => rfl
        case hq_13 =>
          intro W1 hW1
          obtain ⟨hcw, hfw⟩ := bcell hW1
          go_simp
          first | (go_at_call 143; exact identity_any _) | (go_at_call 69; exact negId_any _) | rfl
        simp only [Act.put, List.setIfInBounds_toArray, List.set_cons_zero, List.set_cons_succ]
        refine ord_q (o := ?o_14) (v := ?v_14) ?ho_14 ?hw_14 ?hq_14 ?_
        case ho_14 => simp only [List.getElem?_toArray, List.getElem?_cons_succ, List.getElem?_cons_zero]; rfl
        case hw_14 => rfl
        case hq_14 =>
          intro W1 hW1
          obtain ⟨hcw, hfw⟩ := bcell hW1
          go_simp
          first | (go_at_call 143; exact identity_any _) | (go_at_call 69; exact negId_any _) | rfl
        simp only [Act.put, List.setIfInBounds_toArray, List.set_cons_zero, List.set_cons_succ]
        refine ord_q (o := ?o_15) (v := ?v_15) ?ho_15 ?hw_15 ?hq_15 ?_
        case ho_15 => simp only [List.getElem?_toArray, List.getElem?_cons_succ, List.getElem?_cons_zero]; rfl
        case hw_15 => rfl
        case hq_15 =>
          intro W1 hW1
          obtain ⟨hcw, hfw⟩ := bcell hW1
          go_simp
          first | (go_at_call 143; exact identity_any _) | (go_at_call 69; exact negId_any _) | rfl
        simp only [Act.put, List.setIfInBounds_toArray, List.set_cons_zero, List.set_cons_succ]
        refine ord_q (o := ?o_16) (v := ?v_16) ?ho_16 ?hw_16 ?hq_16 ?_
        case ho_16 => simp only [List.getElem?_toArray, List.getElem?_cons_succ, List.getElem?_cons_zero]; rfl
        case hw_16 => rfl
        case hq_16 =>
          intro W1 hW1
          obtain ⟨hcw, hfw⟩ := bcell hW1
          go_simp
          first | (go_at_call 143; exact identity_any _) | (go_at_call 69; exact negId_any _) | rfl
        simp only [Act.put, List.setIfInBounds_toArray, List.set_cons_zero, List.set_cons_succ]
        refine ord_q (o := ?o_17) (v := ?v_17) ?ho_17 ?hw_17 ?hq_17 ?_
        case ho_17 => simp only [List.getElem?_toArray, List.getElem?_cons_succ, List.getElem?_cons_zero]; rfl
        case hw_17 => rfl
        case hq_17 =>
          intro W1 hW1
          obtain ⟨hcw, hfw⟩ := bcell hW1
          go_simp
          first | (go_at_call 143; exact identity_any _) | (go_at_call 69; exact negId_any _) | rfl
        simp only [Act.put, List.setIfInBounds_toArray, List.set_cons_zero, List.set_cons_succ]
        refine ord_q (o := ?o_18) (v := ?v_18) ?ho_18 ?hw_18 ?hq_18 ?_
        case ho_18 => simp only [List.getElem?_toArray, List.getElem?_cons_succ, List.getElem?_cons_zero]; rfl
        case hw_18 => rfl
        case hq_18 =>
          intro W1 hW1
          obtain ⟨hcw, hfw⟩ := bcell hW1
          go_simp
          first | (go_at_call 143; exact identity_any _) | (go_at_call 69; exact negId_any _) | rfl
        simp only [Act.put, List.setIfInBounds_toArray, List.set_cons_zero, List.set_cons_succ]
        refine ord_q (o := ?o_19) (v := ?v_19) ?ho_19 ?hw_19 ?hq_19 ?_
        case ho_19 => simp only [List.getElem?_toArray, List.getElem?_cons_succ, List.getElem?_cons_zero]; rfl
        case hw_19 => rfl
        case hq_19 =>
          intro W1 hW1
          obtain ⟨hcw, hfw⟩ := bcell hW1
          go_simp
          first | (go_at_call 143; exact identity_any _) | (go_at_call 69; exact negId_any _) | rfl
        simp only [Act.put, List.setIfInBounds_toArray, List.set_cons_zero, List.set_cons_succ]
        refine ord_q (o := ?o_20) (v := ?v_20) ?ho_20 ?hw_20 ?hq_20 ?_
        case ho_20 => simp only [List.getElem?_toArray, List.getElem?_cons_succ, List.getElem?_cons_zero]; rfl
        case hw_20 => rfl
        case hq_20 =>
          intro W1 hW1
          obtain ⟨hcw, hfw⟩ := bcell hW1
          go_simp
          first | (go_at_call 143; exact identity_any _) | (go_at_call 69; exact negId_any _) | rfl
        simp only [Act.put, List.setIfInBounds_toArray, List.set_cons_zero, List.set_cons_succ]
        intro w2 hw2
        have hb2 := hw2.below
        clear hw2
        obtain ⟨hc2, hf2⟩ := bcell hb2
        have hB : Below w.heap.size w w2 := bfin hB1 hb2
        go_wp2_with fail
        go_ret
        exact ⟨rfl, hB⟩
      · rw [hk]
        clear hk
        go_enter Try.func115, Try.ntmps115
        go_wp2_with fail
        refine (trace_any _ _ _ _ _ hM).mono ?_; rintro e w1 ⟨rfl, hb1⟩
        obtain ⟨hc1, hf1⟩ := bcell hb1
        go_wp2_with fail
        refine (size_any _ _ (by omega) (by omega)).mono ?_; rintro e w' ⟨rfl, rfl⟩
        have hz0 : w.heap.size < w1.heap.size := by have := hb1.size; (try simp at this); omega
        go_wp2_with fail
        have hB1 : Below w.heap.size w w1 := bfin (by go_grown) hb1
        refine wp_region_ord [(0, false), (1, false), (2, false), (3, false), (4, false), (5, false), (6, false), (7, false), (8, false), (9, false)] (by kernel_rfl) (by kernel_rfl) ?_
        refine ord_q (o := ?o_21) (v := ?v_21) ?ho_21 ?hw_21 ?hq_21 ?_
        case ho_21 => simp only [List.getElem?_toArray, List.getElem?_cons_zero]; rfl
        case hw_21 => rfl
        case hq_21 =>
          intro W1 hW1
          obtain ⟨hcw, hfw⟩ := bcell hW1
          go_simp
          first | (go_at_call 143; exact identity_any _) | (go_at_call 69; exact negId_any _) | rfl
        simp only [Act.put, List.setIfInBounds_toArray, List.set_cons_zero, List.set_cons_succ]
        refine ord_q (o := ?o_22) (v := ?v_22) ?ho_22 ?hw_22 ?hq_22 ?_
        case ho_22 => simp only [List.getElem?_toArray, List.getElem?_cons_succ, List.getElem?_cons_zero]; rfl
        case hw_22 => rfl
        case hq_22 =>
          intro W1 hW1
          obtain ⟨hcw, hfw⟩ := bcell hW1
          go_simp
          first | (go_at_call 143; exact identity_any _) | (go_at_call 69; exact negId_any _) | rfl
        simp only [Act.put, List.setIfInBounds_toArray, List.set_cons_zero, List.set_cons_succ]
        refine ord_q (o := ?o_23) (v := ?v_23) ?ho_23 ?hw_23 ?hq_23 ?_
        case ho_23 => simp only [List.getElem?_toArray, List.getElem?_cons_succ, List.getElem?_cons_zero]; rfl
        case hw_23 => rfl
        case hq_23 =>
          intro W1 hW1
          obtain ⟨hcw, hfw⟩ := bcell hW1
          go_simp
          first | (go_at_call 143; exact identity_any _) | (go_at_call 69; exact negId_any _) | rfl
        simp only [Act.put, List.setIfInBounds_toArray, List.set_cons_zero, List.set_cons_succ]
        refine ord_q (o := ?o_24) (v := ?v_24) ?ho_24 ?hw_24 ?hq_24 ?_
        case ho_24 => simp only [List.getElem?_toArray, List.getElem?_cons_succ, List.getElem?_cons_zero]; rfl
        case hw_24 => rfl
        case hq_24 =>
          intro W1 hW1
          obtain ⟨hcw, hfw⟩ := bcell hW1
          go_simp
          first | (go_at_call 143; exact identity_any _) | (go_at_call 69; exact negId_any _) | rfl
        simp only [Act.put, List.setIfInBounds_toArray, List.set_cons_zero, List.set_cons_succ]
        refine ord_q (o := ?o_25) (v := ?v_25) ?ho_25 ?hw_25 ?hq_25 ?_
        case ho_25 => simp only [List.getElem?_toArray, List.getElem?_cons_succ, List.getElem?_cons_zero]; rfl
        case hw_25 => rfl
        case hq_25 =>
          intro W1 hW1
          obtain ⟨hcw, hfw⟩ := bcell hW1
          go_simp
          first | (go_at_call 143; exact identity_any _) | (go_at_call 69; exact negId_any _) | rfl
        simp only [Act.put, List.setIfInBounds_toArray, List.set_cons_zero, List.set_cons_succ]
        refine ord_q (o := ?o_26) (v := ?v_26) ?ho_26 ?hw_26 ?hq_26 ?_
        case ho_26 => simp only [List.getElem?_toArray, List.getElem?_cons_succ, List.getElem?_cons_zero]; rfl
        case hw_26 => rfl
        case hq_26 =>
          intro W1 hW1
          obtain ⟨hcw, hfw⟩ := bcell hW1
          go_simp
          first | (go_at_call 143; exact identity_any _) | (go_at_call 69; exact negId_any _) | rfl
        simp only [Act.put, List.setIfInBounds_toArray, List.set_cons_zero, List.set_cons_succ]
        refine ord_q (o := ?o_27) (v := ?v_27) ?ho_27 ?hw_27 ?hq_27 ?_
        case ho_27 => simp only [List.getElem?_toArray, List.getElem?_cons_succ, List.getElem?_cons_zero]; rfl
        case hw_27 => rfl
        case hq_27 =>
          intro W1 hW1
          obtain ⟨hcw, hfw⟩ := bcell hW1
          go_simp
          first | (go_at_call 143; exact identity_any _) | (go_at_call 69; exact negId_any _) | rfl
        simp only [Act.put, List.setIfInBounds_toArray, List.set_cons_zero, List.set_cons_succ]
        refine ord_q (o := ?o_28) (v := ?v_28) ?ho_28 ?hw_28 ?hq_28 ?_
        case ho_28 => simp only [List.getElem?_toArray, List.getElem?_cons_succ, List.getElem?_cons_zero]; rfl
        case hw_28 => rfl
        case hq_28 =>
          intro W1 hW1
          obtain ⟨hcw, hfw⟩ := bcell hW1
          go_simp
          first | (go_at_call 143; exact identity_any _) | (go_at_call 69; exact negId_any _) | rfl
        simp only [Act.put, List.setIfInBounds_toArray, List.set_cons_zero, List.set_cons_succ]
        refine ord_q (o := ?o_29) (v := ?v_29) ?ho_29 ?hw_29 ?hq_29 ?_
        case ho_29 => simp only [List.getElem?_toArray, List.getElem?_cons_succ, List.getElem?_cons_zero]; rfl
        case hw_29 => rfl
        case hq_29 =>
          intro W1 hW1
          obtain ⟨hcw, hfw⟩ := bcell hW1
          go_simp
          first | (go_at_call 143; exact identity_any _) | (go_at_call 69; exact negId_any _) | rfl
        simp only [Act.put, List.setIfInBounds_toArray, List.set_cons_zero, List.set_cons_succ]
        refine ord_q (o := ?o_30) (v := ?v_30) ?ho_30 ?hw_30 ?hq_30 ?_
        case ho_30 => simp only [List.getElem?_toArray, List.getElem?_cons_succ, List.getElem?_cons_zero]; rfl
        case hw_30 => rfl
        case hq_30 =>
          intro W1 hW1
          obtain ⟨hcw, hfw⟩ := bcell hW1
          go_simp
          first | (go_at_call 143; exact identity_any _) | (go_at_call 69; exact negId_any _) | rfl
        simp only [Act.put, List.setIfInBounds_toArray, List.set_cons_zero, List.set_cons_succ]
        intro w2 hw2
        have hb2 := hw2.below
        clear hw2
        obtain ⟨hc2, hf2⟩ := bcell hb2
        have hB : Below w.heap.size w w2 := bfin hB1 hb2
        go_wp2_with fail
        go_ret
        exact ⟨rfl, hB⟩
    · have hk : kindOf a b c d = 0 := by
        simp at hj; unfold kindOf; rw [if_pos]; exact ⟨hj.2.1, hj.2.2.1⟩
      have HK := Lib.hid hk
      clear hk det
      go_enter Try.func115, Try.ntmps115
      go_wp2_with fail
      refine (trace_any _ _ _ _ _ hM).mono ?_; rintro e w1 ⟨rfl, hb1⟩
      obtain ⟨hc1, hf1⟩ := bcell hb1
      go_wp2_with fail
      refine (size_any _ _ (by omega) (by omega)).mono ?_; rintro e w' ⟨rfl, rfl⟩
      have hz0 : w.heap.size < w1.heap.size := by have := hb1.size; (try simp at this); omega
      go_wp2_with fail
      have hB1 : Below w.heap.size w w1 := bfin (by go_grown) hb1
      refine wp_region_ord [(0, false), (1, false), (2, false), (3, false), (4, false), (5, false), (6, false), (7, false), (8, false), (9, false)] (by kernel_rfl) (by kernel_rfl) ?_
      refine ord_q (o := ?o_31) (v := ?v_31) ?ho_31 ?hw_31 ?hq_31 ?_
      case ho_31 => simp only [List.getElem?_toArray, List.getElem?_cons_zero]; rfl
      case hw_31 => rfl
      case hq_31 =>
        intro W1 hW1
        obtain ⟨hcw, hfw⟩ := bcell hW1
        go_simp
        first | (go_at_call 143; exact identity_any _) | (go_at_call 69; exact negId_any _) | rfl
      simp only [Act.put, List.setIfInBounds_toArray, List.set_cons_zero, List.set_cons_succ]
      refine ord_q (o := ?o_32) (v := ?v_32) ?ho_32 ?hw_32 ?hq_32 ?_
      case ho_32 => simp only [List.getElem?_toArray, List.getElem?_cons_succ, List.getElem?_cons_zero]; rfl
      case hw_32 => rfl
      case hq_32 =>
        intro W1 hW1
        obtain ⟨hcw, hfw⟩ := bcell hW1
        go_simp
        first | (go_at_call 143; exact identity_any _) | (go_at_call 69; exact negId_any _) | rfl
      simp only [Act.put, List.setIfInBounds_toArray, List.set_cons_zero, List.set_cons_succ]
      refine ord_q (o := ?o_33) (v := ?v_33) ?ho_33 ?hw_33 ?hq_33 ?_
      case ho_33 => simp only [List.getElem?_toArray, List.getElem?_cons_succ, List.getElem?_cons_zero]; rfl
      case hw_33 => rfl
      case hq_33 =>
        intro W1 hW1
        obtain ⟨hcw, hfw⟩ := bcell hW1
        go_simp
        first | (go_at_call 143; exact identity_any _) | (go_at_call 69; exact negId_any _) | rfl
      simp only [Act.put, List.setIfInBounds_toArray, List.set_cons_zero, List.set_cons_succ]
      refine ord_q (o := ?o_34) (v := ?v_34) ?ho_34 ?hw_34 ?hq_34 ?_
      case ho_34 => simp only [List.getElem?_toArray, List.getElem?_cons_succ, List.getElem?_cons_zero]; rfl
      case hw_34 => rfl
      case hq_34 =>
        intro W1 hW1
        obtain ⟨hcw, hfw⟩ := bcell hW1
        go_simp
        first | (go_at_call 143; exact identity_any _) | (go_at_call 69; exact negId_any _) | rfl
      simp only [Act.put, List.setIfInBounds_toArray, List.set_cons_zero, List.set_cons_succ]
      refine ord_q (o := ?o_35) (v := ?v_35) ?ho_35 ?hw_35 ?hq_35 ?_
      case ho_35 => simp only [List.getElem?_toArray, List.getElem?_cons_succ, List.getElem?_cons_zero]; rfl
      case hw_35 => rfl
      case hq_35 =>
        intro W1 hW1
        obtain ⟨hcw, hfw⟩ := bcell hW1
        go_simp
        first | (go_at_call 143; exact identity_any _) | (go_at_call 69; exact negId_any _) | rfl
      simp only [Act.put, List.setIfInBounds_toArray, List.set_cons_zero, List.set_cons_succ]
      refine ord_q (o := ?o_36) (v := ?v_36) ?ho_36 ?hw_36 ?hq_36 ?_
      case ho_36 => simp only [List.getElem?_toArray, List.getElem?_cons_succ, List.getElem?_cons_zero]; rfl
      case hw_36 => rfl
      case hq_36 =>
        intro W1 hW1
        obtain ⟨hcw, hfw⟩ := bcell hW1
        go_simp
        first | (go_at_call 143; exact identity_any _) | (go_at_call 69; exact negId_any _) | rfl
      simp only [Act.put, List.setIfInBounds_toArray, List.set_cons_zero, List.set_cons_succ]
      refine ord_q (o := ?o_37) (v := ?v_37) ?ho_37 ?hw_37 ?hq_37 ?_
      case ho_37 => simp only [List.getElem?_toArray, List.getElem?_cons_succ, List.getElem?_cons_zero]; rfl
      case hw_37 => rfl
      case hq_37 =>
        intro W1 hW1
        obtain ⟨hcw, hfw⟩ := bcell hW1
        go_simp
        first | (go_at_call 143; exact identity_any _) | (go_at_call 69; exact negId_any _) | rfl
      simp only [Act.put, List.setIfInBounds_toArray, List.set_cons_zero, List.set_cons_succ]
      refine ord_q (o := ?o_38) (v := ?v_38) ?ho_38 ?hw_38 ?hq_38 ?_
      case ho_38 => simp only [List.getElem?_toArray, List.getElem?_cons_succ, List.getElem?_cons_zero]; rfl
      case hw_38 => rfl
      case hq_38 =>
        intro W1 hW1
        obtain ⟨hcw, hfw⟩ := bcell hW1
        go_simp
        first | (go_at_call 143; exact identity_any _) | (go_at_call 69; exact negId_any _) | rfl
      simp only [Act.put, List.setIfInBounds_toArray, List.set_cons_zero, List.set_cons_succ]
      refine ord_q (o := ?o_39) (v := ?v_39) ?ho_39 ?hw_39 ?hq_39 ?_
      case ho_39 => simp only [List.getElem?_toArray, List.getElem?_cons_succ, List.getElem?_cons_zero]; rfl
      case hw_39 => rfl
      case hq_39 =>
        intro W1 hW1
        obtain ⟨hcw, hfw⟩ := bcell hW1
        go_simp
        first | (go_at_call 143; exact identity_any _) | (go_at_call 69; exact negId_any _) | rfl
      simp only [Act.put, List.setIfInBounds_toArray, List.set_cons_zero, List.set_cons_succ]
      refine ord_q (o := ?o_40) (v := ?v_40) ?ho_40 ?hw_40 ?hq_40 ?_
      case ho_40 => simp only [List.getElem?_toArray, List.getElem?_cons_succ, List.getElem?_cons_zero]; rfl
      case hw_40 => rfl
      case hq_40 =>
        intro W1 hW1
        obtain ⟨hcw, hfw⟩ := bcell hW1
        go_simp
        first | (go_at_call 143; exact identity_any _) | (go_at_call 69; exact negId_any _) | rfl
      simp only [Act.put, List.setIfInBounds_toArray, List.set_cons_zero, List.set_cons_succ]
      intro w2 hw2
      have hb2 := hw2.below
      clear hw2
      obtain ⟨hc2, hf2⟩ := bcell hb2
      have hB : Below w.heap.size w w2 := bfin hB1 hb2
      go_wp2_with fail
      go_ret
      exact ⟨ret_int (by rw [HK.out]), hB⟩
  · have hk : kindOf a b c d = 0 := by
      simp at hi; unfold kindOf; rw [if_pos]; exact ⟨hi.2.1, hi.2.2.1⟩
    have HK := Lib.hid hk
    clear hk det
    go_enter Try.func115, Try.ntmps115
    go_wp2_with fail
    refine (trace_any _ _ _ _ _ hM).mono ?_; rintro e w1 ⟨rfl, hb1⟩
    obtain ⟨hc1, hf1⟩ := bcell hb1
    go_wp2_with fail
    refine (size_any _ _ (by omega) (by omega)).mono ?_; rintro e w' ⟨rfl, rfl⟩
    have hz0 : w.heap.size < w1.heap.size := by have := hb1.size; (try simp at this); omega
    go_wp2_with fail
    have hB1 : Below w.heap.size w w1 := bfin (by go_grown) hb1
    refine wp_region_ord [(0, false), (1, false), (2, false), (3, false), (4, false), (5, false), (6, false), (7, false), (8, false), (9, false)] (by kernel_rfl) (by kernel_rfl) ?_
    refine ord_q (o := ?o_41) (v := ?v_41) ?ho_41 ?hw_41 ?hq_41 ?_
    case ho_41 => simp only [List.getElem?_toArray, List.getElem?_cons_zero]; rfl
    case hw_41 => rfl
    case hq_41 =>
      intro W1 hW1
      obtain ⟨hcw, hfw⟩ := bcell hW1
      go_simp
      first | (go_at_call 143; exact identity_any _) | rfl
    simp only [Act.put, List.setIfInBounds_toArray, List.set_cons_zero, List.set_cons_succ]
    refine ord_q (o := ?o_42) (v := ?v_42) ?ho_42 ?hw_42 ?hq_42 ?_
    case ho_42 => simp only [List.getElem?_toArray, List.getElem?_cons_succ, List.getElem?_cons_zero]; rfl
    case hw_42 => rfl
    case hq_42 =>
      intro W1 hW1
      obtain ⟨hcw, hfw⟩ := bcell hW1
      go_simp
      first | (go_at_call 143; exact identity_any _) | rfl
    simp only [Act.put, List.setIfInBounds_toArray, List.set_cons_zero, List.set_cons_succ]
    refine ord_q (o := ?o_43) (v := ?v_43) ?ho_43 ?hw_43 ?hq_43 ?_
    case ho_43 => simp only [List.getElem?_toArray, List.getElem?_cons_succ, List.getElem?_cons_zero]; rfl
    case hw_43 => rfl
    case hq_43 =>
      intro W1 hW1
      obtain ⟨hcw, hfw⟩ := bcell hW1
      go_simp
      first | (go_at_call 143; exact identity_any _) | rfl
    simp only [Act.put, List.setIfInBounds_toArray, List.set_cons_zero, List.set_cons_succ]
    refine ord_q (o := ?o_44) (v := ?v_44) ?ho_44 ?hw_44 ?hq_44 ?_
    case ho_44 => simp only [List.getElem?_toArray, List.getElem?_cons_succ, List.getElem?_cons_zero]; rfl
    case hw_44 => rfl
    case hq_44 =>
      intro W1 hW1
      obtain ⟨hcw, hfw⟩ := bcell hW1
      go_simp
      first | (go_at_call 143; exact identity_any _) | rfl
    simp only [Act.put, List.setIfInBounds_toArray, List.set_cons_zero, List.set_cons_succ]
    refine ord_skip (o := ?o_45) ?ho_45 ?hw_45 ?_
    case ho_45 => simp only [List.getElem?_toArray, List.getElem?_cons_succ, List.getElem?_cons_zero]; rfl
    case hw_45 => rfl
    simp only [Act.put, List.setIfInBounds_toArray, List.set_cons_zero, List.set_cons_succ]
    refine ord_skip (o := ?o_46) ?ho_46 ?hw_46 ?_
    case ho_46 => simp only [List.getElem?_toArray, List.getElem?_cons_succ, List.getElem?_cons_zero]; rfl
    case hw_46 => rfl
    simp only [Act.put, List.setIfInBounds_toArray, List.set_cons_zero, List.set_cons_succ]
    refine ord_skip (o := ?o_47) ?ho_47 ?hw_47 ?_
    case ho_47 => simp only [List.getElem?_toArray, List.getElem?_cons_succ, List.getElem?_cons_zero]; rfl
    case hw_47 => rfl
    simp only [Act.put, List.setIfInBounds_toArray, List.set_cons_zero, List.set_cons_succ]
    refine ord_skip (o := ?o_48) ?ho_48 ?hw_48 ?_
    case ho_48 => simp only [List.getElem?_toArray, List.getElem?_cons_succ, List.getElem?_cons_zero]; rfl
    case hw_48 => rfl
    simp only [Act.put, List.setIfInBounds_toArray, List.set_cons_zero, List.set_cons_succ]
    refine ord_q (o := ?o_49) (v := ?v_49) ?ho_49 ?hw_49 ?hq_49 ?_
    case ho_49 => simp only [List.getElem?_toArray, List.getElem?_cons_succ, List.getElem?_cons_zero]; rfl
    case hw_49 => rfl
    case hq_49 =>
      intro W1 hW1
      obtain ⟨hcw, hfw⟩ := bcell hW1
      go_simp
      first | (go_at_call 143; exact identity_any _) | rfl
    simp only [Act.put, List.setIfInBounds_toArray, List.set_cons_zero, List.set_cons_succ]
    refine ord_q (o := ?o_50) (v := ?v_50) ?ho_50 ?hw_50 ?hq_50 ?_
    case ho_50 => simp only [List.getElem?_toArray, List.getElem?_cons_succ, List.getElem?_cons_zero]; rfl
    case hw_50 => rfl
    case hq_50 =>
      intro W1 hW1
      obtain ⟨hcw, hfw⟩ := bcell hW1
      go_simp
      first | (go_at_call 143; exact identity_any _) | rfl
    simp only [Act.put, List.setIfInBounds_toArray, List.set_cons_zero, List.set_cons_succ]
    intro w2 hw2
    have hb2 := hw2.below
    clear hw2
    obtain ⟨hc2, hf2⟩ := bcell hb2
    have hB : Below w.heap.size w w2 := bfin hB1 hb2
    go_wp2_with fail
    go_ret
    exact ⟨ret_int (by rw [HK.out]), hB⟩
end Go.Proofs.Ytencfmipplgnkaa
