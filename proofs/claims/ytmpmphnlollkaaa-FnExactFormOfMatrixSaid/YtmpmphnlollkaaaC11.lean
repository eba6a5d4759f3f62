/- Contracts: the form of a matrix. -/
import Derived.Test.YtmpmphnlollkaaaC10
import Derived.Test.YtmpmphnlollkaaaC4
import Derived.Test.YtmpmphnlollkaaaN4
namespace Go.Proofs.Ytmpmphnlollkaaa
open Go.RowKit
set_option maxRecDepth 100000 in
set_option maxHeartbeats 2000000 in
theorem FormOfMatrix_any (a b c d : Int) (w : World) :
    Calls Try.prog 29 #[(.agg #[.int .i64 a, .int .i64 b, .int .i64 c, .int .i64 d])] w fun e w' => e = .returned (.tuple #[(.agg #[.int .i64 ((formOfMat a b c d).1.x), .int .i64 ((formOfMat a b c d).1.y), .int .i64 ((formOfMat a b c d).1.z)]), (.int .i64 ((formOfMat a b c d).2))]) ∧ Below w.heap.size w w' := by
  cases hM : isMat a b c d
  · rw [show formOfMat a b c d = (⟨0, 0, 0⟩, 1) by simp [formOfMat, hM]]
    go_enter Try.func29, Try.ntmps29
    go_wp2_with fail
    refine (IsMatrix_any _ _ _ _ _).mono ?_; rintro e w1 ⟨rfl, hb1⟩
    obtain ⟨hc1, hf1⟩ := bcell hb1
    obtain ⟨hz0, hz1⟩ : w.heap.size < w1.heap.size ∧ w.heap.size + 1 < w1.heap.size := by have := hb1.size; (try simp at this); omega
    have hB1 : Below w.heap.size w w1 := bfin (by go_grown) hb1
    go_wp2_with fail
    have hall := And.intro hc1 (And.intro hz0 (hz1))
    refine bodyPost_ret (v := .tuple #[(.agg #[.int .i64 0, .int .i64 0, .int .i64 0]), (.int .i64 1)]) (by first | (simp [results, Try.results29, go_sem]; done) | (simp [results, Try.results29, go_sem, hall] <;> rfl)) rfl ⟨rfl, by go_grown⟩
  have hm := isMat_iff.1 hM
  rw [show formOfMat a b c d = formOfM a b c d by simp [formOfMat, hM]]
  by_cases hk : kindOf a b c d = 0
  · rw [show formOfM a b c d = (⟨0, 0, 0⟩, 5) by simp [formOfM, hk]]
    have HK := Lib.hid (kind_any a b c d)
    rw [hk] at HK
    clear hk
    go_enter Try.func29, Try.ntmps29
    go_wp2_with fail
    refine (IsMatrix_any _ _ _ _ _).mono ?_; rintro e w1 ⟨rfl, hb1⟩
    obtain ⟨hc1, hf1⟩ := bcell hb1
    obtain ⟨hz0, hz1⟩ : w.heap.size < w1.heap.size ∧ w.heap.size + 1 < w1.heap.size := by have := hb1.size; (try simp at this); omega
    go_wp2_with fail
    refine (HK.out _ hm).mono ?_; rintro e w2 ⟨rfl, hb2⟩
    replace hb2 := bstep hb1 hb2
    clear hc1 hf1 hb1
    obtain ⟨hc2, hf2⟩ := bcell hb2
    obtain ⟨hz0, hz1⟩ : w.heap.size < w2.heap.size ∧ w.heap.size + 1 < w2.heap.size := by have := hb2.size; (try simp at this); omega
    have hB2 : Below w.heap.size w w2 := bfin (by go_grown) hb2
    go_wp2_with fail
    have hall := And.intro hc2 (And.intro hz0 (hz1))
    refine bodyPost_ret (v := .tuple #[(.agg #[.int .i64 0, .int .i64 0, .int .i64 0]), (.int .i64 5)]) (by first | (simp [results, Try.results29, go_sem]; done) | (simp [results, Try.results29, go_sem, hall] <;> rfl)) rfl ⟨rfl, by go_grown⟩
  have hn := kind_ne hk
  have g1 := @formGcd_pos a b c d hn
  have g2 := formGcd_le hm hn
  obtain ⟨a0, a1, b0, b1, c0, c1, d0, d1, _⟩ := id hm
  have t1 := @tdiv_bd c (formGcd a b c d) 2000000000 (by omega) (by omega)
  have t2 := @tdiv_bd (d - a) (formGcd a b c d) 2000000000 (by omega) (by omega)
  have t3 := @tdiv_bd b (formGcd a b c d) 2000000000 (by omega) (by omega)
  have hgb : (Int.gcd c (d - a) : Int) ≤ 2000000000 := by
    have h2 := Int.gcd_dvd_left c (d - a)
    have h3 := Int.gcd_dvd_right c (d - a)
    rcases Int.lt_trichotomy c 0 with h | h | h
    · have := Int.le_of_dvd (show 0 < -c by omega) (Int.dvd_neg.2 h2); omega
    · rw [h]; simp; omega
    · have := Int.le_of_dvd h h2; omega
  have HD1 := Lib.hid (fun W => divisor_any c (d - a) W (by omega) (by omega) (by omega) (by omega))
  have HD2 := Lib.hid (fun W => divisor_any (Int.gcd c (d - a) : Int) (-b) W (by omega) (by omega) (by omega) (by omega))
  rw [show ((Int.gcd (Int.gcd c (d - a) : Int) (-b) : Nat) : Int) = formGcd a b c d from rfl] at HD2
  have hfm : formOfM a b c d = if smallB (c.tdiv (formGcd a b c d)) ((d - a).tdiv (formGcd a b c d)) (-(b.tdiv (formGcd a b c d))) = true then (⟨c.tdiv (formGcd a b c d), (d - a).tdiv (formGcd a b c d), -(b.tdiv (formGcd a b c d))⟩, 0) else (⟨0, 0, 0⟩, 3) := by simp [formOfM, hk]
  rw [hfm]
  clear hfm
  generalize formGcd a b c d = G at *
  generalize (Int.gcd c (d - a) : Int) = G1 at *
  have hk' : (kindOf a b c d == 0) = false := by simp [hk]
  obtain ⟨t10, t11⟩ := t1
  obtain ⟨t20, t21⟩ := t2
  obtain ⟨t30, t31⟩ := t3
  have hG0 : G ≠ 0 := by omega
  clear hk hn
  cases hs : smallB (c.tdiv G) ((d - a).tdiv G) (-(b.tdiv G))
  · rw [if_neg (by simp)]
    go_enter Try.func29, Try.ntmps29
    go_wp2_with fail
    refine (IsMatrix_any _ _ _ _ _).mono ?_; rintro e w1 ⟨rfl, hb1⟩
    obtain ⟨hc1, hf1⟩ := bcell hb1
    obtain ⟨hz0, hz1⟩ : w.heap.size < w1.heap.size ∧ w.heap.size + 1 < w1.heap.size := by have := hb1.size; (try simp at this); omega
    go_wp2_with fail
    refine (kind_any _ _ _ _ _ hm).mono ?_; rintro e w2 ⟨rfl, hb2⟩
    replace hb2 := bstep hb1 hb2
    clear hc1 hf1 hb1
    obtain ⟨hc2, hf2⟩ := bcell hb2
    obtain ⟨hz0, hz1⟩ : w.heap.size < w2.heap.size ∧ w.heap.size + 1 < w2.heap.size := by have := hb2.size; (try simp at this); omega
    go_wp2_with fail
    have hB2 : Below w.heap.size w w2 := bfin (by go_grown) hb2
    refine wp_region_ord [(0, false), (1, false), (2, false), (3, false), (4, false), (5, false), (6, false), (7, false), (8, false)] (by kernel_rfl) (by kernel_rfl) ?_
    refine ord_q (o := ?o_1) (v := ?v_1) ?ho_1 ?hw_1 ?hq_1 ?_
    case ho_1 => simp only [List.getElem?_toArray, List.getElem?_cons_zero]; rfl
    case hw_1 => rfl
    case hq_1 =>
      intro W1 hW1
      obtain ⟨hcw, hfw⟩ := bcell hW1
      go_simp
      first | (go_at_call 62; with_reducible exact HD1.out _) | (go_at_call 62; with_reducible exact HD2.out _) | rfl
    simp only [Act.put, List.setIfInBounds_toArray, List.set_cons_zero, List.set_cons_succ]
    refine ord_q (o := ?o_2) (v := ?v_2) ?ho_2 ?hw_2 ?hq_2 ?_
    case ho_2 => simp only [List.getElem?_toArray, List.getElem?_cons_succ, List.getElem?_cons_zero]; rfl
    case hw_2 => rfl
    case hq_2 =>
      intro W1 hW1
      obtain ⟨hcw, hfw⟩ := bcell hW1
      go_simp
      first | (go_at_call 62; with_reducible exact HD1.out _) | (go_at_call 62; with_reducible exact HD2.out _) | rfl
    simp only [Act.put, List.setIfInBounds_toArray, List.set_cons_zero, List.set_cons_succ]
    refine ord_q (o := ?o_3) (v := ?v_3) ?ho_3 ?hw_3 ?hq_3 ?_
    case ho_3 => simp only [List.getElem?_toArray, List.getElem?_cons_succ, List.getElem?_cons_zero]; rfl
    case hw_3 => rfl
    case hq_3 =>
      intro W1 hW1
      obtain ⟨hcw, hfw⟩ := bcell hW1
      go_simp
      first | (go_at_call 62; with_reducible exact HD1.out _) | (go_at_call 62; with_reducible exact HD2.out _) | rfl
    simp only [Act.put, List.setIfInBounds_toArray, List.set_cons_zero, List.set_cons_succ]
    refine ord_q (o := ?o_4) (v := ?v_4) ?ho_4 ?hw_4 ?hq_4 ?_
    case ho_4 => simp only [List.getElem?_toArray, List.getElem?_cons_succ, List.getElem?_cons_zero]; rfl
    case hw_4 => rfl
    case hq_4 =>
      intro W1 hW1
      obtain ⟨hcw, hfw⟩ := bcell hW1
      go_simp
      first | (go_at_call 62; with_reducible exact HD1.out _) | (go_at_call 62; with_reducible exact HD2.out _) | rfl
    simp only [Act.put, List.setIfInBounds_toArray, List.set_cons_zero, List.set_cons_succ]
    refine ord_q (o := ?o_5) (v := ?v_5) ?ho_5 ?hw_5 ?hq_5 ?_
    case ho_5 => simp only [List.getElem?_toArray, List.getElem?_cons_succ, List.getElem?_cons_zero]; rfl
    case hw_5 => rfl
    case hq_5 =>
      intro W1 hW1
      obtain ⟨hcw, hfw⟩ := bcell hW1
      go_simp
      first | (go_at_call 62; with_reducible exact HD1.out _) | (go_at_call 62; with_reducible exact HD2.out _) | rfl
    simp only [Act.put, List.setIfInBounds_toArray, List.set_cons_zero, List.set_cons_succ]
    refine ord_q (o := ?o_6) (v := ?v_6) ?ho_6 ?hw_6 ?hq_6 ?_
    case ho_6 => simp only [List.getElem?_toArray, List.getElem?_cons_succ, List.getElem?_cons_zero]; rfl
    case hw_6 => rfl
    case hq_6 =>
      intro W1 hW1
      obtain ⟨hcw, hfw⟩ := bcell hW1
      go_simp
      first | (go_at_call 62; with_reducible exact HD1.out _) | (go_at_call 62; with_reducible exact HD2.out _) | rfl
    simp only [Act.put, List.setIfInBounds_toArray, List.set_cons_zero, List.set_cons_succ]
    refine ord_q (o := ?o_7) (v := ?v_7) ?ho_7 ?hw_7 ?hq_7 ?_
    case ho_7 => simp only [List.getElem?_toArray, List.getElem?_cons_succ, List.getElem?_cons_zero]; rfl
    case hw_7 => rfl
    case hq_7 =>
      intro W1 hW1
      obtain ⟨hcw, hfw⟩ := bcell hW1
      go_simp
      first | (go_at_call 62; with_reducible exact HD1.out _) | (go_at_call 62; with_reducible exact HD2.out _) | rfl
    simp only [Act.put, List.setIfInBounds_toArray, List.set_cons_zero, List.set_cons_succ]
    refine ord_q (o := ?o_8) (v := ?v_8) ?ho_8 ?hw_8 ?hq_8 ?_
    case ho_8 => simp only [List.getElem?_toArray, List.getElem?_cons_succ, List.getElem?_cons_zero]; rfl
    case hw_8 => rfl
    case hq_8 =>
      intro W1 hW1
      obtain ⟨hcw, hfw⟩ := bcell hW1
      go_simp
      first | (go_at_call 62; with_reducible exact HD1.out _) | (go_at_call 62; with_reducible exact HD2.out _) | rfl
    simp only [Act.put, List.setIfInBounds_toArray, List.set_cons_zero, List.set_cons_succ]
    refine ord_q (o := ?o_9) (v := ?v_9) ?ho_9 ?hw_9 ?hq_9 ?_
    case ho_9 => simp only [List.getElem?_toArray, List.getElem?_cons_succ, List.getElem?_cons_zero]; rfl
    case hw_9 => rfl
    case hq_9 =>
      intro W1 hW1
      obtain ⟨hcw, hfw⟩ := bcell hW1
      go_simp
      first | (go_at_call 62; with_reducible exact HD1.out _) | (go_at_call 62; with_reducible exact HD2.out _) | rfl
    simp only [Act.put, List.setIfInBounds_toArray, List.set_cons_zero, List.set_cons_succ]
    intro w3 hw3
    have hb3 := hw3.below
    clear hw3
    obtain ⟨hc3, hf3⟩ := bcell hb3
    obtain ⟨hz3_0, hz3_1, hz3_2⟩ : w.heap.size < w3.heap.size ∧ w.heap.size + 1 < w3.heap.size ∧ w2.heap.size < w3.heap.size := by have := hb3.size; (try simp at this); omega
    go_wp2_with fail
    have hB3 : Below w.heap.size w w3 := bfin (by go_grown) hb3
    refine wp_region_ext_tail 13 (by kernel_rfl) (by kernel_rfl) ?_
    simp only [List.take_succ_cons, List.take_zero, List.drop_succ_cons, List.drop_zero]
    repeat (go_big_quiet_step (fail))
    refine wpQuiet_nil ?_
    intro w4 hb4
    obtain ⟨hc4, hf4⟩ := bcell hb4
    obtain ⟨hz4_0, hz4_1, hz4_2⟩ : w.heap.size < w4.heap.size ∧ w.heap.size + 1 < w4.heap.size ∧ w2.heap.size < w4.heap.size := by have := hb4.size; (try simp at this); omega
    have hB4 : Below w.heap.size w w4 := bfin (by go_grown) hb4
    go_wp2_with fail
    refine (areSmall_any _ _ _ _ (by omega) (by omega) (by omega)).mono ?_; rintro e w5 ⟨rfl, hb5⟩
    obtain ⟨hc5, hf5⟩ := bcell hb5
    obtain ⟨hz5_0, hz5_1, hz5_2⟩ : w.heap.size < w5.heap.size ∧ w.heap.size + 1 < w5.heap.size ∧ w2.heap.size < w5.heap.size := by have := hb5.size; (try simp at this); omega
    have hB5 : Below w.heap.size w w5 := bfin (by go_grown) hb5
    go_wp2_with fail
    have hall := And.intro hc2 (And.intro hc3 (And.intro hc4 (And.intro hc5 (And.intro hz0 (And.intro hz1 (And.intro hz3_0 (And.intro hz3_1 (And.intro hz3_2 (And.intro hz4_0 (And.intro hz4_1 (And.intro hz4_2 (And.intro hz5_0 (And.intro hz5_1 (hz5_2))))))))))))))
    refine bodyPost_ret (v := .tuple #[(.agg #[.int .i64 0, .int .i64 0, .int .i64 0]), (.int .i64 3)]) (by first | (simp [results, Try.results29, go_sem]; done) | (simp [results, Try.results29, go_sem, hall] <;> rfl)) rfl ⟨rfl, by go_grown⟩
  · rw [if_pos rfl]
    go_enter Try.func29, Try.ntmps29
    go_wp2_with fail
    refine (IsMatrix_any _ _ _ _ _).mono ?_; rintro e w1 ⟨rfl, hb1⟩
    obtain ⟨hc1, hf1⟩ := bcell hb1
    obtain ⟨hz0, hz1⟩ : w.heap.size < w1.heap.size ∧ w.heap.size + 1 < w1.heap.size := by have := hb1.size; (try simp at this); omega
    go_wp2_with fail
    refine (kind_any _ _ _ _ _ hm).mono ?_; rintro e w2 ⟨rfl, hb2⟩
    replace hb2 := bstep hb1 hb2
    clear hc1 hf1 hb1
    obtain ⟨hc2, hf2⟩ := bcell hb2
    obtain ⟨hz0, hz1⟩ : w.heap.size < w2.heap.size ∧ w.heap.size + 1 < w2.heap.size := by have := hb2.size; (try simp at this); omega
    go_wp2_with fail
    have hB2 : Below w.heap.size w w2 := bfin (by go_grown) hb2
    refine wp_region_ord [(0, false), (1, false), (2, false), (3, false), (4, false), (5, false), (6, false), (7, false), (8, false)] (by kernel_rfl) (by kernel_rfl) ?_
    refine ord_q (o := ?o_10) (v := ?v_10) ?ho_10 ?hw_10 ?hq_10 ?_
    case ho_10 => simp only [List.getElem?_toArray, List.getElem?_cons_zero]; rfl
    case hw_10 => rfl
    case hq_10 =>
      intro W1 hW1
      obtain ⟨hcw, hfw⟩ := bcell hW1
      go_simp
      first | (go_at_call 62; with_reducible exact HD1.out _) | (go_at_call 62; with_reducible exact HD2.out _) | rfl
    simp only [Act.put, List.setIfInBounds_toArray, List.set_cons_zero, List.set_cons_succ]
    refine ord_q (o := ?o_11) (v := ?v_11) ?ho_11 ?hw_11 ?hq_11 ?_
    case ho_11 => simp only [List.getElem?_toArray, List.getElem?_cons_succ, List.getElem?_cons_zero]; rfl
    case hw_11 => rfl
    case hq_11 =>
      intro W1 hW1
      obtain ⟨hcw, hfw⟩ := bcell hW1
      go_simp
      first | (go_at_call 62; with_reducible exact HD1.out _) | (go_at_call 62; with_reducible exact HD2.out _) | rfl
    simp only [Act.put, List.setIfInBounds_toArray, List.set_cons_zero, List.set_cons_succ]
    refine ord_q (o := ?o_12) (v := ?v_12) ?ho_12 ?hw_12 ?hq_12 ?_
    case ho_12 => simp only [List.getElem?_toArray, List.getElem?_cons_succ, List.getElem?_cons_zero]; rfl
    case hw_12 => rfl
    case hq_12 =>
      intro W1 hW1
      obtain ⟨hcw, hfw⟩ := bcell hW1
      go_simp
      first | (go_at_call 62; with_reducible exact HD1.out _) | (go_at_call 62; with_reducible exact HD2.out _) | rfl
    simp only [Act.put, List.setIfInBounds_toArray, List.set_cons_zero, List.set_cons_succ]
    refine ord_q (o := ?o_13) (v := ?v_13) ?ho_13 ?hw_13 ?hq_13 ?_
    case ho_13 => simp only [List.getElem?_toArray, List.getElem?_cons_succ, List.getElem?_cons_zero]; rfl
    case hw_13 => rfl
    case hq_13 =>
      intro W1 hW1
      obtain ⟨hcw, hfw⟩ := bcell hW1
      go_simp
      first | (go_at_call 62; with_reducible exact HD1.out _) | (go_at_call 62; with_reducible exact HD2.out _) | rfl
    simp only [Act.put, List.setIfInBounds_toArray, List.set_cons_zero, List.set_cons_succ]
    refine ord_q (o := ?o_14) (v := ?v_14) ?ho_14 ?hw_14 ?hq_14 ?_
    case ho_14 => simp only [List.getElem?_toArray, List.getElem?_cons_succ, List.getElem?_cons_zero]; rfl
    case hw_14 => rfl
    case hq_14 =>
      intro W1 hW1
      obtain ⟨hcw, hfw⟩ := bcell hW1
      go_simp
      first | (go_at_call 62; with_reducible exact HD1.out _) | (go_at_call 62; with_reducible exact HD2.out _) | rfl
    simp only [Act.put, List.setIfInBounds_toArray, List.set_cons_zero, List.set_cons_succ]
    refine ord_q (o := ?o_15) (v := ?v_15) ?ho_15 ?hw_15 ?hq_15 ?_
    case ho_15 => simp only [List.getElem?_toArray, List.getElem?_cons_succ, List.getElem?_cons_zero]; rfl
    case hw_15 => rfl
    case hq_15 =>
      intro W1 hW1
      obtain ⟨hcw, hfw⟩ := bcell hW1
      go_simp
      first | (go_at_call 62; with_reducible exact HD1.out _) | (go_at_call 62; with_reducible exact HD2.out _) | rfl
    simp only [Act.put, List.setIfInBounds_toArray, List.set_cons_zero, List.set_cons_succ]
    refine ord_q (o := ?o_16) (v := ?v_16) ?ho_16 ?hw_16 ?hq_16 ?_
    case ho_16 => simp only [List.getElem?_toArray, List.getElem?_cons_succ, List.getElem?_cons_zero]; rfl
    case hw_16 => rfl
    case hq_16 =>
      intro W1 hW1
      obtain ⟨hcw, hfw⟩ := bcell hW1
      go_simp
      first | (go_at_call 62; with_reducible exact HD1.out _) | (go_at_call 62; with_reducible exact HD2.out _) | rfl
    simp only [Act.put, List.setIfInBounds_toArray, List.set_cons_zero, List.set_cons_succ]
    refine ord_q (o := ?o_17) (v := ?v_17) ?ho_17 ?hw_17 ?hq_17 ?_
    case ho_17 => simp only [List.getElem?_toArray, List.getElem?_cons_succ, List.getElem?_cons_zero]; rfl
    case hw_17 => rfl
    case hq_17 =>
      intro W1 hW1
      obtain ⟨hcw, hfw⟩ := bcell hW1
      go_simp
      first | (go_at_call 62; with_reducible exact HD1.out _) | (go_at_call 62; with_reducible exact HD2.out _) | rfl
    simp only [Act.put, List.setIfInBounds_toArray, List.set_cons_zero, List.set_cons_succ]
    refine ord_q (o := ?o_18) (v := ?v_18) ?ho_18 ?hw_18 ?hq_18 ?_
    case ho_18 => simp only [List.getElem?_toArray, List.getElem?_cons_succ, List.getElem?_cons_zero]; rfl
    case hw_18 => rfl
    case hq_18 =>
      intro W1 hW1
      obtain ⟨hcw, hfw⟩ := bcell hW1
      go_simp
      first | (go_at_call 62; with_reducible exact HD1.out _) | (go_at_call 62; with_reducible exact HD2.out _) | rfl
    simp only [Act.put, List.setIfInBounds_toArray, List.set_cons_zero, List.set_cons_succ]
    intro w3 hw3
    have hb3 := hw3.below
    clear hw3
    obtain ⟨hc3, hf3⟩ := bcell hb3
    obtain ⟨hz3_0, hz3_1, hz3_2⟩ : w.heap.size < w3.heap.size ∧ w.heap.size + 1 < w3.heap.size ∧ w2.heap.size < w3.heap.size := by have := hb3.size; (try simp at this); omega
    go_wp2_with fail
    have hB3 : Below w.heap.size w w3 := bfin (by go_grown) hb3
    refine wp_region_ext_tail 13 (by kernel_rfl) (by kernel_rfl) ?_
    simp only [List.take_succ_cons, List.take_zero, List.drop_succ_cons, List.drop_zero]
    repeat (go_big_quiet_step (fail))
    refine wpQuiet_nil ?_
    intro w4 hb4
    obtain ⟨hc4, hf4⟩ := bcell hb4
    obtain ⟨hz4_0, hz4_1, hz4_2⟩ : w.heap.size < w4.heap.size ∧ w.heap.size + 1 < w4.heap.size ∧ w2.heap.size < w4.heap.size := by have := hb4.size; (try simp at this); omega
    have hB4 : Below w.heap.size w w4 := bfin (by go_grown) hb4
    go_wp2_with fail
    refine (areSmall_any _ _ _ _ (by omega) (by omega) (by omega)).mono ?_; rintro e w5 ⟨rfl, hb5⟩
    obtain ⟨hc5, hf5⟩ := bcell hb5
    obtain ⟨hz5_0, hz5_1, hz5_2⟩ : w.heap.size < w5.heap.size ∧ w.heap.size + 1 < w5.heap.size ∧ w2.heap.size < w5.heap.size := by have := hb5.size; (try simp at this); omega
    have hB5 : Below w.heap.size w w5 := bfin (by go_grown) hb5
    go_wp2_with fail
    have hall := And.intro hc2 (And.intro hc3 (And.intro hc4 (And.intro hc5 (And.intro hz0 (And.intro hz1 (And.intro hz3_0 (And.intro hz3_1 (And.intro hz3_2 (And.intro hz4_0 (And.intro hz4_1 (And.intro hz4_2 (And.intro hz5_0 (And.intro hz5_1 (hz5_2))))))))))))))
    refine bodyPost_ret (v := .tuple #[(.agg #[.int .i64 (c.tdiv G), .int .i64 ((d - a).tdiv G), .int .i64 (-(b.tdiv G))]), (.int .i64 0)]) (by first | (simp [results, Try.results29, go_sem]; done) | (simp [results, Try.results29, go_sem, hall] <;> rfl)) rfl ⟨rfl, by go_grown⟩
end Go.Proofs.Ytmpmphnlollkaaa
