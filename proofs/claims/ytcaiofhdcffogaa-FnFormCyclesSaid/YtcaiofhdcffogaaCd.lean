/- Contracts: the reference's kind. -/
import Derived.Test.YtcaiofhdcffogaaCa
import Derived.Test.YtcaiofhdcffogaaCb
import Derived.Test.YtcaiofhdcffogaaNa
namespace Go.Proofs.Ytcaiofhdcffogaa
open Go.RowKit
theorem kind_cases (a b c d : Int) : ((b == 0) = true ∧ (c == 0) = true ∧ kindOf a b c d = 0) ∨ ((b == 0) = true ∧ (c == 0) = false) ∨ (b == 0) = false := by
  by_cases hb : b = 0
  · by_cases hc : c = 0
    · left; exact ⟨by simp [hb], by simp [hc], by unfold kindOf; rw [if_pos ⟨hb, hc⟩]⟩
    · right; left; exact ⟨by simp [hb], by simp [hc]⟩
  · right; right; simp [hb]
theorem kind_cases2 (a b c d : Int) (h : ¬ (b = 0 ∧ c = 0)) (t : Int) (ht : t = (a + d).natAbs) : (t < 2 ∧ kindOf a b c d = 1) ∨ ((t == 2) = true ∧ ¬ t < 2 ∧ kindOf a b c d = 2) ∨ ((t == 2) = false ∧ ¬ t < 2 ∧ kindOf a b c d = 3) := by
  unfold kindOf
  rw [if_neg h]
  subst ht
  by_cases h1 : (a + d).natAbs < 2
  · left; exact ⟨by omega, if_pos h1⟩
  · by_cases h2 : (a + d).natAbs = 2
    · right; left; exact ⟨by simp; omega, by omega, by rw [if_neg h1, if_pos h2]⟩
    · right; right; exact ⟨by simp; omega, by omega, by rw [if_neg h1, if_neg h2]⟩
set_option maxRecDepth 100000 in
set_option maxHeartbeats 4000000 in
theorem l01Kind_any (a b c d : Int) (w : World) (h : IsMat a b c d) :
    Calls Try.prog 55 #[(.agg #[.int .i64 a, .int .i64 b, .int .i64 c, .int .i64 d])] w fun e w' => e = .returned (.int .i64 (kindOf a b c d)) ∧ Below w.heap.size w w' := by
  have hM := h
  obtain ⟨a0, a1, b0, b1, c0, c1, d0, d1, det⟩ := h
  clear det
  have hkk := Lib.hid (kind_cases2 a b c d)
  rcases kind_cases a b c d with ⟨e1, e2, hk⟩ | ⟨e1, e2⟩ | e1
  · rw [hk]
    clear hk
    by_cases hs : a + d < 0
    · skip
      go_enter Try.func55, Try.ntmps55
      go_wp2_with fail
      refine wp_region_ord [(0, false), (1, false), (2, false), (3, false), (4, false), (5, false), (6, false)] (by kernel_rfl) (by kernel_rfl) ?_
      refine ord_q (o := ?o_1) (v := ?v_1) ?ho_1 ?hw_1 ?hq_1 ?_
      case ho_1 => simp only [List.getElem?_toArray, List.getElem?_cons_zero]; rfl
      case hw_1 => rfl
      case hq_1 =>
        intro W1 hW1
        obtain ⟨hcw, hfw⟩ := bcell hW1
        go_simp
        first | (go_at_call 88; exact l01Trace_any _ _ _ _ _ hM) | rfl
      simp only [Act.put, List.setIfInBounds_toArray, List.set_cons_zero, List.set_cons_succ]
      refine ord_q (o := ?o_2) (v := ?v_2) ?ho_2 ?hw_2 ?hq_2 ?_
      case ho_2 => simp only [List.getElem?_toArray, List.getElem?_cons_succ, List.getElem?_cons_zero]; rfl
      case hw_2 => rfl
      case hq_2 =>
        intro W1 hW1
        obtain ⟨hcw, hfw⟩ := bcell hW1
        go_simp
        first | (go_at_call 88; exact l01Trace_any _ _ _ _ _ hM) | rfl
      simp only [Act.put, List.setIfInBounds_toArray, List.set_cons_zero, List.set_cons_succ]
      refine ord_q (o := ?o_3) (v := ?v_3) ?ho_3 ?hw_3 ?hq_3 ?_
      case ho_3 => simp only [List.getElem?_toArray, List.getElem?_cons_succ, List.getElem?_cons_zero]; rfl
      case hw_3 => rfl
      case hq_3 =>
        intro W1 hW1
        obtain ⟨hcw, hfw⟩ := bcell hW1
        go_simp
        first | (go_at_call 88; exact l01Trace_any _ _ _ _ _ hM) | rfl
      simp only [Act.put, List.setIfInBounds_toArray, List.set_cons_zero, List.set_cons_succ]
      refine ord_q (o := ?o_4) (v := ?v_4) ?ho_4 ?hw_4 ?hq_4 ?_
      case ho_4 => simp only [List.getElem?_toArray, List.getElem?_cons_succ, List.getElem?_cons_zero]; rfl
      case hw_4 => rfl
      case hq_4 =>
        intro W1 hW1
        obtain ⟨hcw, hfw⟩ := bcell hW1
        go_simp
        first | (go_at_call 88; exact l01Trace_any _ _ _ _ _ hM) | rfl
      simp only [Act.put, List.setIfInBounds_toArray, List.set_cons_zero, List.set_cons_succ]
      refine ord_q (o := ?o_5) (v := ?v_5) ?ho_5 ?hw_5 ?hq_5 ?_
      case ho_5 => simp only [List.getElem?_toArray, List.getElem?_cons_succ, List.getElem?_cons_zero]; rfl
      case hw_5 => rfl
      case hq_5 =>
        intro W1 hW1
        obtain ⟨hcw, hfw⟩ := bcell hW1
        go_simp
        first | (go_at_call 88; exact l01Trace_any _ _ _ _ _ hM) | rfl
      simp only [Act.put, List.setIfInBounds_toArray, List.set_cons_zero, List.set_cons_succ]
      refine ord_q (o := ?o_6) (v := ?v_6) ?ho_6 ?hw_6 ?hq_6 ?_
      case ho_6 => simp only [List.getElem?_toArray, List.getElem?_cons_succ, List.getElem?_cons_zero]; rfl
      case hw_6 => rfl
      case hq_6 =>
        intro W1 hW1
        obtain ⟨hcw, hfw⟩ := bcell hW1
        go_simp
        first | (go_at_call 88; exact l01Trace_any _ _ _ _ _ hM) | rfl
      simp only [Act.put, List.setIfInBounds_toArray, List.set_cons_zero, List.set_cons_succ]
      refine ord_q (o := ?o_7) (v := ?v_7) ?ho_7 ?hw_7 ?hq_7 ?_
      case ho_7 => simp only [List.getElem?_toArray, List.getElem?_cons_succ, List.getElem?_cons_zero]; rfl
      case hw_7 => rfl
      case hq_7 =>
        intro W1 hW1
        obtain ⟨hcw, hfw⟩ := bcell hW1
        go_simp
        first | (go_at_call 88; exact l01Trace_any _ _ _ _ _ hM) | rfl
      simp only [Act.put, List.setIfInBounds_toArray, List.set_cons_zero, List.set_cons_succ]
      intro w1 hw1
      have hb1 := hw1.below
      clear hw1
      obtain ⟨hc1, hf1⟩ := bcell hb1
      have hz0 : w.heap.size < w1.heap.size := by have := hb1.size; (try simp at this); omega
      have hB : Below w.heap.size w w1 := bfin (by go_grown) hb1
      go_wp2_with fail
      all_goals first | (exfalso; omega) | (go_ret; exact ⟨rfl, hB⟩)
    · skip
      go_enter Try.func55, Try.ntmps55
      go_wp2_with fail
      refine wp_region_ord [(0, false), (1, false), (2, false), (3, false), (4, false), (5, false), (6, false)] (by kernel_rfl) (by kernel_rfl) ?_
      refine ord_q (o := ?o_8) (v := ?v_8) ?ho_8 ?hw_8 ?hq_8 ?_
      case ho_8 => simp only [List.getElem?_toArray, List.getElem?_cons_zero]; rfl
      case hw_8 => rfl
      case hq_8 =>
        intro W1 hW1
        obtain ⟨hcw, hfw⟩ := bcell hW1
        go_simp
        first | (go_at_call 88; exact l01Trace_any _ _ _ _ _ hM) | rfl
      simp only [Act.put, List.setIfInBounds_toArray, List.set_cons_zero, List.set_cons_succ]
      refine ord_q (o := ?o_9) (v := ?v_9) ?ho_9 ?hw_9 ?hq_9 ?_
      case ho_9 => simp only [List.getElem?_toArray, List.getElem?_cons_succ, List.getElem?_cons_zero]; rfl
      case hw_9 => rfl
      case hq_9 =>
        intro W1 hW1
        obtain ⟨hcw, hfw⟩ := bcell hW1
        go_simp
        first | (go_at_call 88; exact l01Trace_any _ _ _ _ _ hM) | rfl
      simp only [Act.put, List.setIfInBounds_toArray, List.set_cons_zero, List.set_cons_succ]
      refine ord_q (o := ?o_10) (v := ?v_10) ?ho_10 ?hw_10 ?hq_10 ?_
      case ho_10 => simp only [List.getElem?_toArray, List.getElem?_cons_succ, List.getElem?_cons_zero]; rfl
      case hw_10 => rfl
      case hq_10 =>
        intro W1 hW1
        obtain ⟨hcw, hfw⟩ := bcell hW1
        go_simp
        first | (go_at_call 88; exact l01Trace_any _ _ _ _ _ hM) | rfl
      simp only [Act.put, List.setIfInBounds_toArray, List.set_cons_zero, List.set_cons_succ]
      refine ord_q (o := ?o_11) (v := ?v_11) ?ho_11 ?hw_11 ?hq_11 ?_
      case ho_11 => simp only [List.getElem?_toArray, List.getElem?_cons_succ, List.getElem?_cons_zero]; rfl
      case hw_11 => rfl
      case hq_11 =>
        intro W1 hW1
        obtain ⟨hcw, hfw⟩ := bcell hW1
        go_simp
        first | (go_at_call 88; exact l01Trace_any _ _ _ _ _ hM) | rfl
      simp only [Act.put, List.setIfInBounds_toArray, List.set_cons_zero, List.set_cons_succ]
      refine ord_q (o := ?o_12) (v := ?v_12) ?ho_12 ?hw_12 ?hq_12 ?_
      case ho_12 => simp only [List.getElem?_toArray, List.getElem?_cons_succ, List.getElem?_cons_zero]; rfl
      case hw_12 => rfl
      case hq_12 =>
        intro W1 hW1
        obtain ⟨hcw, hfw⟩ := bcell hW1
        go_simp
        first | (go_at_call 88; exact l01Trace_any _ _ _ _ _ hM) | rfl
      simp only [Act.put, List.setIfInBounds_toArray, List.set_cons_zero, List.set_cons_succ]
      refine ord_q (o := ?o_13) (v := ?v_13) ?ho_13 ?hw_13 ?hq_13 ?_
      case ho_13 => simp only [List.getElem?_toArray, List.getElem?_cons_succ, List.getElem?_cons_zero]; rfl
      case hw_13 => rfl
      case hq_13 =>
        intro W1 hW1
        obtain ⟨hcw, hfw⟩ := bcell hW1
        go_simp
        first | (go_at_call 88; exact l01Trace_any _ _ _ _ _ hM) | rfl
      simp only [Act.put, List.setIfInBounds_toArray, List.set_cons_zero, List.set_cons_succ]
      refine ord_q (o := ?o_14) (v := ?v_14) ?ho_14 ?hw_14 ?hq_14 ?_
      case ho_14 => simp only [List.getElem?_toArray, List.getElem?_cons_succ, List.getElem?_cons_zero]; rfl
      case hw_14 => rfl
      case hq_14 =>
        intro W1 hW1
        obtain ⟨hcw, hfw⟩ := bcell hW1
        go_simp
        first | (go_at_call 88; exact l01Trace_any _ _ _ _ _ hM) | rfl
      simp only [Act.put, List.setIfInBounds_toArray, List.set_cons_zero, List.set_cons_succ]
      intro w1 hw1
      have hb1 := hw1.below
      clear hw1
      obtain ⟨hc1, hf1⟩ := bcell hb1
      have hz0 : w.heap.size < w1.heap.size := by have := hb1.size; (try simp at this); omega
      have hB : Below w.heap.size w w1 := bfin (by go_grown) hb1
      go_wp2_with fail
      all_goals first | (exfalso; omega) | (go_ret; exact ⟨rfl, hB⟩)
  · have hn : ¬ (b = 0 ∧ c = 0) := by simp at e2; exact fun h => e2 h.2
    have HN := Lib.hid hn
    clear hn
    by_cases hs : a + d < 0
    · rcases hkk.out HN.out (-(a + d)) (by omega) with ⟨h1, hk⟩ | ⟨h2, h1, hk⟩ | ⟨h2, h1, hk⟩
      · rw [hk]
        clear hk
        go_enter Try.func55, Try.ntmps55
        go_wp2_with fail
        refine wp_region_ord [(0, false), (1, false), (2, false), (3, false), (4, false), (5, false), (6, false)] (by kernel_rfl) (by kernel_rfl) ?_
        refine ord_q (o := ?o_15) (v := ?v_15) ?ho_15 ?hw_15 ?hq_15 ?_
        case ho_15 => simp only [List.getElem?_toArray, List.getElem?_cons_zero]; rfl
        case hw_15 => rfl
        case hq_15 =>
          intro W1 hW1
          obtain ⟨hcw, hfw⟩ := bcell hW1
          go_simp
          first | (go_at_call 88; exact l01Trace_any _ _ _ _ _ hM) | rfl
        simp only [Act.put, List.setIfInBounds_toArray, List.set_cons_zero, List.set_cons_succ]
        refine ord_q (o := ?o_16) (v := ?v_16) ?ho_16 ?hw_16 ?hq_16 ?_
        case ho_16 => simp only [List.getElem?_toArray, List.getElem?_cons_succ, List.getElem?_cons_zero]; rfl
        case hw_16 => rfl
        case hq_16 =>
          intro W1 hW1
          obtain ⟨hcw, hfw⟩ := bcell hW1
          go_simp
          first | (go_at_call 88; exact l01Trace_any _ _ _ _ _ hM) | rfl
        simp only [Act.put, List.setIfInBounds_toArray, List.set_cons_zero, List.set_cons_succ]
        refine ord_q (o := ?o_17) (v := ?v_17) ?ho_17 ?hw_17 ?hq_17 ?_
        case ho_17 => simp only [List.getElem?_toArray, List.getElem?_cons_succ, List.getElem?_cons_zero]; rfl
        case hw_17 => rfl
        case hq_17 =>
          intro W1 hW1
          obtain ⟨hcw, hfw⟩ := bcell hW1
          go_simp
          first | (go_at_call 88; exact l01Trace_any _ _ _ _ _ hM) | rfl
        simp only [Act.put, List.setIfInBounds_toArray, List.set_cons_zero, List.set_cons_succ]
        refine ord_q (o := ?o_18) (v := ?v_18) ?ho_18 ?hw_18 ?hq_18 ?_
        case ho_18 => simp only [List.getElem?_toArray, List.getElem?_cons_succ, List.getElem?_cons_zero]; rfl
        case hw_18 => rfl
        case hq_18 =>
          intro W1 hW1
          obtain ⟨hcw, hfw⟩ := bcell hW1
          go_simp
          first | (go_at_call 88; exact l01Trace_any _ _ _ _ _ hM) | rfl
        simp only [Act.put, List.setIfInBounds_toArray, List.set_cons_zero, List.set_cons_succ]
        refine ord_q (o := ?o_19) (v := ?v_19) ?ho_19 ?hw_19 ?hq_19 ?_
        case ho_19 => simp only [List.getElem?_toArray, List.getElem?_cons_succ, List.getElem?_cons_zero]; rfl
        case hw_19 => rfl
        case hq_19 =>
          intro W1 hW1
          obtain ⟨hcw, hfw⟩ := bcell hW1
          go_simp
          first | (go_at_call 88; exact l01Trace_any _ _ _ _ _ hM) | rfl
        simp only [Act.put, List.setIfInBounds_toArray, List.set_cons_zero, List.set_cons_succ]
        refine ord_q (o := ?o_20) (v := ?v_20) ?ho_20 ?hw_20 ?hq_20 ?_
        case ho_20 => simp only [List.getElem?_toArray, List.getElem?_cons_succ, List.getElem?_cons_zero]; rfl
        case hw_20 => rfl
        case hq_20 =>
          intro W1 hW1
          obtain ⟨hcw, hfw⟩ := bcell hW1
          go_simp
          first | (go_at_call 88; exact l01Trace_any _ _ _ _ _ hM) | rfl
        simp only [Act.put, List.setIfInBounds_toArray, List.set_cons_zero, List.set_cons_succ]
        refine ord_q (o := ?o_21) (v := ?v_21) ?ho_21 ?hw_21 ?hq_21 ?_
        case ho_21 => simp only [List.getElem?_toArray, List.getElem?_cons_succ, List.getElem?_cons_zero]; rfl
        case hw_21 => rfl
        case hq_21 =>
          intro W1 hW1
          obtain ⟨hcw, hfw⟩ := bcell hW1
          go_simp
          first | (go_at_call 88; exact l01Trace_any _ _ _ _ _ hM) | rfl
        simp only [Act.put, List.setIfInBounds_toArray, List.set_cons_zero, List.set_cons_succ]
        intro w1 hw1
        have hb1 := hw1.below
        clear hw1
        obtain ⟨hc1, hf1⟩ := bcell hb1
        have hz0 : w.heap.size < w1.heap.size := by have := hb1.size; (try simp at this); omega
        have hB : Below w.heap.size w w1 := bfin (by go_grown) hb1
        go_wp2_with fail
        all_goals first | (exfalso; omega) | (go_ret; exact ⟨rfl, hB⟩)
      · rw [hk]
        clear hk
        go_enter Try.func55, Try.ntmps55
        go_wp2_with fail
        refine wp_region_ord [(0, false), (1, false), (2, false), (3, false), (4, false), (5, false), (6, false)] (by kernel_rfl) (by kernel_rfl) ?_
        refine ord_q (o := ?o_22) (v := ?v_22) ?ho_22 ?hw_22 ?hq_22 ?_
        case ho_22 => simp only [List.getElem?_toArray, List.getElem?_cons_zero]; rfl
        case hw_22 => rfl
        case hq_22 =>
          intro W1 hW1
          obtain ⟨hcw, hfw⟩ := bcell hW1
          go_simp
          first | (go_at_call 88; exact l01Trace_any _ _ _ _ _ hM) | rfl
        simp only [Act.put, List.setIfInBounds_toArray, List.set_cons_zero, List.set_cons_succ]
        refine ord_q (o := ?o_23) (v := ?v_23) ?ho_23 ?hw_23 ?hq_23 ?_
        case ho_23 => simp only [List.getElem?_toArray, List.getElem?_cons_succ, List.getElem?_cons_zero]; rfl
        case hw_23 => rfl
        case hq_23 =>
          intro W1 hW1
          obtain ⟨hcw, hfw⟩ := bcell hW1
          go_simp
          first | (go_at_call 88; exact l01Trace_any _ _ _ _ _ hM) | rfl
        simp only [Act.put, List.setIfInBounds_toArray, List.set_cons_zero, List.set_cons_succ]
        refine ord_q (o := ?o_24) (v := ?v_24) ?ho_24 ?hw_24 ?hq_24 ?_
        case ho_24 => simp only [List.getElem?_toArray, List.getElem?_cons_succ, List.getElem?_cons_zero]; rfl
        case hw_24 => rfl
        case hq_24 =>
          intro W1 hW1
          obtain ⟨hcw, hfw⟩ := bcell hW1
          go_simp
          first | (go_at_call 88; exact l01Trace_any _ _ _ _ _ hM) | rfl
        simp only [Act.put, List.setIfInBounds_toArray, List.set_cons_zero, List.set_cons_succ]
        refine ord_q (o := ?o_25) (v := ?v_25) ?ho_25 ?hw_25 ?hq_25 ?_
        case ho_25 => simp only [List.getElem?_toArray, List.getElem?_cons_succ, List.getElem?_cons_zero]; rfl
        case hw_25 => rfl
        case hq_25 =>
          intro W1 hW1
          obtain ⟨hcw, hfw⟩ := bcell hW1
          go_simp
          first | (go_at_call 88; exact l01Trace_any _ _ _ _ _ hM) | rfl
        simp only [Act.put, List.setIfInBounds_toArray, List.set_cons_zero, List.set_cons_succ]
        refine ord_q (o := ?o_26) (v := ?v_26) ?ho_26 ?hw_26 ?hq_26 ?_
        case ho_26 => simp only [List.getElem?_toArray, List.getElem?_cons_succ, List.getElem?_cons_zero]; rfl
        case hw_26 => rfl
        case hq_26 =>
          intro W1 hW1
          obtain ⟨hcw, hfw⟩ := bcell hW1
          go_simp
          first | (go_at_call 88; exact l01Trace_any _ _ _ _ _ hM) | rfl
        simp only [Act.put, List.setIfInBounds_toArray, List.set_cons_zero, List.set_cons_succ]
        refine ord_q (o := ?o_27) (v := ?v_27) ?ho_27 ?hw_27 ?hq_27 ?_
        case ho_27 => simp only [List.getElem?_toArray, List.getElem?_cons_succ, List.getElem?_cons_zero]; rfl
        case hw_27 => rfl
        case hq_27 =>
          intro W1 hW1
          obtain ⟨hcw, hfw⟩ := bcell hW1
          go_simp
          first | (go_at_call 88; exact l01Trace_any _ _ _ _ _ hM) | rfl
        simp only [Act.put, List.setIfInBounds_toArray, List.set_cons_zero, List.set_cons_succ]
        refine ord_q (o := ?o_28) (v := ?v_28) ?ho_28 ?hw_28 ?hq_28 ?_
        case ho_28 => simp only [List.getElem?_toArray, List.getElem?_cons_succ, List.getElem?_cons_zero]; rfl
        case hw_28 => rfl
        case hq_28 =>
          intro W1 hW1
          obtain ⟨hcw, hfw⟩ := bcell hW1
          go_simp
          first | (go_at_call 88; exact l01Trace_any _ _ _ _ _ hM) | rfl
        simp only [Act.put, List.setIfInBounds_toArray, List.set_cons_zero, List.set_cons_succ]
        intro w1 hw1
        have hb1 := hw1.below
        clear hw1
        obtain ⟨hc1, hf1⟩ := bcell hb1
        have hz0 : w.heap.size < w1.heap.size := by have := hb1.size; (try simp at this); omega
        have hB : Below w.heap.size w w1 := bfin (by go_grown) hb1
        go_wp2_with fail
        all_goals first | (exfalso; omega) | (go_ret; exact ⟨rfl, hB⟩)
      · rw [hk]
        clear hk
        go_enter Try.func55, Try.ntmps55
        go_wp2_with fail
        refine wp_region_ord [(0, false), (1, false), (2, false), (3, false), (4, false), (5, false), (6, false)] (by kernel_rfl) (by kernel_rfl) ?_
        refine ord_q (o := ?o_29) (v := ?v_29) ?ho_29 ?hw_29 ?hq_29 ?_
        case ho_29 => simp only [List.getElem?_toArray, List.getElem?_cons_zero]; rfl
        case hw_29 => rfl
        case hq_29 =>
          intro W1 hW1
          obtain ⟨hcw, hfw⟩ := bcell hW1
          go_simp
          first | (go_at_call 88; exact l01Trace_any _ _ _ _ _ hM) | rfl
        simp only [Act.put, List.setIfInBounds_toArray, List.set_cons_zero, List.set_cons_succ]
        refine ord_q (o := ?o_30) (v := ?v_30) ?ho_30 ?hw_30 ?hq_30 ?_
        case ho_30 => simp only [List.getElem?_toArray, List.getElem?_cons_succ, List.getElem?_cons_zero]; rfl
        case hw_30 => rfl
        case hq_30 =>
          intro W1 hW1
          obtain ⟨hcw, hfw⟩ := bcell hW1
          go_simp
          first | (go_at_call 88; exact l01Trace_any _ _ _ _ _ hM) | rfl
        simp only [Act.put, List.setIfInBounds_toArray, List.set_cons_zero, List.set_cons_succ]
        refine ord_q (o := ?o_31) (v := ?v_31) ?ho_31 ?hw_31 ?hq_31 ?_
        case ho_31 => simp only [List.getElem?_toArray, List.getElem?_cons_succ, List.getElem?_cons_zero]; rfl
        case hw_31 => rfl
        case hq_31 =>
          intro W1 hW1
          obtain ⟨hcw, hfw⟩ := bcell hW1
          go_simp
          first | (go_at_call 88; exact l01Trace_any _ _ _ _ _ hM) | rfl
        simp only [Act.put, List.setIfInBounds_toArray, List.set_cons_zero, List.set_cons_succ]
        refine ord_q (o := ?o_32) (v := ?v_32) ?ho_32 ?hw_32 ?hq_32 ?_
        case ho_32 => simp only [List.getElem?_toArray, List.getElem?_cons_succ, List.getElem?_cons_zero]; rfl
        case hw_32 => rfl
        case hq_32 =>
          intro W1 hW1
          obtain ⟨hcw, hfw⟩ := bcell hW1
          go_simp
          first | (go_at_call 88; exact l01Trace_any _ _ _ _ _ hM) | rfl
        simp only [Act.put, List.setIfInBounds_toArray, List.set_cons_zero, List.set_cons_succ]
        refine ord_q (o := ?o_33) (v := ?v_33) ?ho_33 ?hw_33 ?hq_33 ?_
        case ho_33 => simp only [List.getElem?_toArray, List.getElem?_cons_succ, List.getElem?_cons_zero]; rfl
        case hw_33 => rfl
        case hq_33 =>
          intro W1 hW1
          obtain ⟨hcw, hfw⟩ := bcell hW1
          go_simp
          first | (go_at_call 88; exact l01Trace_any _ _ _ _ _ hM) | rfl
        simp only [Act.put, List.setIfInBounds_toArray, List.set_cons_zero, List.set_cons_succ]
        refine ord_q (o := ?o_34) (v := ?v_34) ?ho_34 ?hw_34 ?hq_34 ?_
        case ho_34 => simp only [List.getElem?_toArray, List.getElem?_cons_succ, List.getElem?_cons_zero]; rfl
        case hw_34 => rfl
        case hq_34 =>
          intro W1 hW1
          obtain ⟨hcw, hfw⟩ := bcell hW1
          go_simp
          first | (go_at_call 88; exact l01Trace_any _ _ _ _ _ hM) | rfl
        simp only [Act.put, List.setIfInBounds_toArray, List.set_cons_zero, List.set_cons_succ]
        refine ord_q (o := ?o_35) (v := ?v_35) ?ho_35 ?hw_35 ?hq_35 ?_
        case ho_35 => simp only [List.getElem?_toArray, List.getElem?_cons_succ, List.getElem?_cons_zero]; rfl
        case hw_35 => rfl
        case hq_35 =>
          intro W1 hW1
          obtain ⟨hcw, hfw⟩ := bcell hW1
          go_simp
          first | (go_at_call 88; exact l01Trace_any _ _ _ _ _ hM) | rfl
        simp only [Act.put, List.setIfInBounds_toArray, List.set_cons_zero, List.set_cons_succ]
        intro w1 hw1
        have hb1 := hw1.below
        clear hw1
        obtain ⟨hc1, hf1⟩ := bcell hb1
        have hz0 : w.heap.size < w1.heap.size := by have := hb1.size; (try simp at this); omega
        have hB : Below w.heap.size w w1 := bfin (by go_grown) hb1
        go_wp2_with fail
        all_goals first | (exfalso; omega) | (go_ret; exact ⟨rfl, hB⟩)
    · rcases hkk.out HN.out (a + d) (by omega) with ⟨h1, hk⟩ | ⟨h2, h1, hk⟩ | ⟨h2, h1, hk⟩
      · rw [hk]
        clear hk
        go_enter Try.func55, Try.ntmps55
        go_wp2_with fail
        refine wp_region_ord [(0, false), (1, false), (2, false), (3, false), (4, false), (5, false), (6, false)] (by kernel_rfl) (by kernel_rfl) ?_
        refine ord_q (o := ?o_36) (v := ?v_36) ?ho_36 ?hw_36 ?hq_36 ?_
        case ho_36 => simp only [List.getElem?_toArray, List.getElem?_cons_zero]; rfl
        case hw_36 => rfl
        case hq_36 =>
          intro W1 hW1
          obtain ⟨hcw, hfw⟩ := bcell hW1
          go_simp
          first | (go_at_call 88; exact l01Trace_any _ _ _ _ _ hM) | rfl
        simp only [Act.put, List.setIfInBounds_toArray, List.set_cons_zero, List.set_cons_succ]
        refine ord_q (o := ?o_37) (v := ?v_37) ?ho_37 ?hw_37 ?hq_37 ?_
        case ho_37 => simp only [List.getElem?_toArray, List.getElem?_cons_succ, List.getElem?_cons_zero]; rfl
        case hw_37 => rfl
        case hq_37 =>
          intro W1 hW1
          obtain ⟨hcw, hfw⟩ := bcell hW1
          go_simp
          first | (go_at_call 88; exact l01Trace_any _ _ _ _ _ hM) | rfl
        simp only [Act.put, List.setIfInBounds_toArray, List.set_cons_zero, List.set_cons_succ]
        refine ord_q (o := ?o_38) (v := ?v_38) ?ho_38 ?hw_38 ?hq_38 ?_
        case ho_38 => simp only [List.getElem?_toArray, List.getElem?_cons_succ, List.getElem?_cons_zero]; rfl
        case hw_38 => rfl
        case hq_38 =>
          intro W1 hW1
          obtain ⟨hcw, hfw⟩ := bcell hW1
          go_simp
          first | (go_at_call 88; exact l01Trace_any _ _ _ _ _ hM) | rfl
        simp only [Act.put, List.setIfInBounds_toArray, List.set_cons_zero, List.set_cons_succ]
        refine ord_q (o := ?o_39) (v := ?v_39) ?ho_39 ?hw_39 ?hq_39 ?_
        case ho_39 => simp only [List.getElem?_toArray, List.getElem?_cons_succ, List.getElem?_cons_zero]; rfl
        case hw_39 => rfl
        case hq_39 =>
          intro W1 hW1
          obtain ⟨hcw, hfw⟩ := bcell hW1
          go_simp
          first | (go_at_call 88; exact l01Trace_any _ _ _ _ _ hM) | rfl
        simp only [Act.put, List.setIfInBounds_toArray, List.set_cons_zero, List.set_cons_succ]
        refine ord_q (o := ?o_40) (v := ?v_40) ?ho_40 ?hw_40 ?hq_40 ?_
        case ho_40 => simp only [List.getElem?_toArray, List.getElem?_cons_succ, List.getElem?_cons_zero]; rfl
        case hw_40 => rfl
        case hq_40 =>
          intro W1 hW1
          obtain ⟨hcw, hfw⟩ := bcell hW1
          go_simp
          first | (go_at_call 88; exact l01Trace_any _ _ _ _ _ hM) | rfl
        simp only [Act.put, List.setIfInBounds_toArray, List.set_cons_zero, List.set_cons_succ]
        refine ord_q (o := ?o_41) (v := ?v_41) ?ho_41 ?hw_41 ?hq_41 ?_
        case ho_41 => simp only [List.getElem?_toArray, List.getElem?_cons_succ, List.getElem?_cons_zero]; rfl
        case hw_41 => rfl
        case hq_41 =>
          intro W1 hW1
          obtain ⟨hcw, hfw⟩ := bcell hW1
          go_simp
          first | (go_at_call 88; exact l01Trace_any _ _ _ _ _ hM) | rfl
        simp only [Act.put, List.setIfInBounds_toArray, List.set_cons_zero, List.set_cons_succ]
        refine ord_q (o := ?o_42) (v := ?v_42) ?ho_42 ?hw_42 ?hq_42 ?_
        case ho_42 => simp only [List.getElem?_toArray, List.getElem?_cons_succ, List.getElem?_cons_zero]; rfl
        case hw_42 => rfl
        case hq_42 =>
          intro W1 hW1
          obtain ⟨hcw, hfw⟩ := bcell hW1
          go_simp
          first | (go_at_call 88; exact l01Trace_any _ _ _ _ _ hM) | rfl
        simp only [Act.put, List.setIfInBounds_toArray, List.set_cons_zero, List.set_cons_succ]
        intro w1 hw1
        have hb1 := hw1.below
        clear hw1
        obtain ⟨hc1, hf1⟩ := bcell hb1
        have hz0 : w.heap.size < w1.heap.size := by have := hb1.size; (try simp at this); omega
        have hB : Below w.heap.size w w1 := bfin (by go_grown) hb1
        go_wp2_with fail
        all_goals first | (exfalso; omega) | (go_ret; exact ⟨rfl, hB⟩)
      · rw [hk]
        clear hk
        go_enter Try.func55, Try.ntmps55
        go_wp2_with fail
        refine wp_region_ord [(0, false), (1, false), (2, false), (3, false), (4, false), (5, false), (6, false)] (by kernel_rfl) (by kernel_rfl) ?_
        refine ord_q (o := ?o_43) (v := ?v_43) ?ho_43 ?hw_43 ?hq_43 ?_
        case ho_43 => simp only [List.getElem?_toArray, List.getElem?_cons_zero]; rfl
        case hw_43 => rfl
        case hq_43 =>
          intro W1 hW1
          obtain ⟨hcw, hfw⟩ := bcell hW1
          go_simp
          first | (go_at_call 88; exact l01Trace_any _ _ _ _ _ hM) | rfl
        simp only [Act.put, List.setIfInBounds_toArray, List.set_cons_zero, List.set_cons_succ]
        refine ord_q (o := ?o_44) (v := ?v_44) ?ho_44 ?hw_44 ?hq_44 ?_
        case ho_44 => simp only [List.getElem?_toArray, List.getElem?_cons_succ, List.getElem?_cons_zero]; rfl
        case hw_44 => rfl
        case hq_44 =>
          intro W1 hW1
          obtain ⟨hcw, hfw⟩ := bcell hW1
          go_simp
          first | (go_at_call 88; exact l01Trace_any _ _ _ _ _ hM) | rfl
        simp only [Act.put, List.setIfInBounds_toArray, List.set_cons_zero, List.set_cons_succ]
        refine ord_q (o := ?o_45) (v := ?v_45) ?ho_45 ?hw_45 ?hq_45 ?_
        case ho_45 => simp only [List.getElem?_toArray, List.getElem?_cons_succ, List.getElem?_cons_zero]; rfl
        case hw_45 => rfl
        case hq_45 =>
          intro W1 hW1
          obtain ⟨hcw, hfw⟩ := bcell hW1
          go_simp
          first | (go_at_call 88; exact l01Trace_any _ _ _ _ _ hM) | rfl
        simp only [Act.put, List.setIfInBounds_toArray, List.set_cons_zero, List.set_cons_succ]
        refine ord_q (o := ?o_46) (v := ?v_46) ?ho_46 ?hw_46 ?hq_46 ?_
        case ho_46 => simp only [List.getElem?_toArray, List.getElem?_cons_succ, List.getElem?_cons_zero]; rfl
        case hw_46 => rfl
        case hq_46 =>
          intro W1 hW1
          obtain ⟨hcw, hfw⟩ := bcell hW1
          go_simp
          first | (go_at_call 88; exact l01Trace_any _ _ _ _ _ hM) | rfl
        simp only [Act.put, List.setIfInBounds_toArray, List.set_cons_zero, List.set_cons_succ]
        refine ord_q (o := ?o_47) (v := ?v_47) ?ho_47 ?hw_47 ?hq_47 ?_
        case ho_47 => simp only [List.getElem?_toArray, List.getElem?_cons_succ, List.getElem?_cons_zero]; rfl
        case hw_47 => rfl
        case hq_47 =>
          intro W1 hW1
          obtain ⟨hcw, hfw⟩ := bcell hW1
          go_simp
          first | (go_at_call 88; exact l01Trace_any _ _ _ _ _ hM) | rfl
        simp only [Act.put, List.setIfInBounds_toArray, List.set_cons_zero, List.set_cons_succ]
        refine ord_q (o := ?o_48) (v := ?v_48) ?ho_48 ?hw_48 ?hq_48 ?_
        case ho_48 => simp only [List.getElem?_toArray, List.getElem?_cons_succ, List.getElem?_cons_zero]; rfl
        case hw_48 => rfl
        case hq_48 =>
          intro W1 hW1
          obtain ⟨hcw, hfw⟩ := bcell hW1
          go_simp
          first | (go_at_call 88; exact l01Trace_any _ _ _ _ _ hM) | rfl
        simp only [Act.put, List.setIfInBounds_toArray, List.set_cons_zero, List.set_cons_succ]
        refine ord_q (o := ?o_49) (v := ?v_49) ?ho_49 ?hw_49 ?hq_49 ?_
        case ho_49 => simp only [List.getElem?_toArray, List.getElem?_cons_succ, List.getElem?_cons_zero]; rfl
        case hw_49 => rfl
        case hq_49 =>
          intro W1 hW1
          obtain ⟨hcw, hfw⟩ := bcell hW1
          go_simp
          first | (go_at_call 88; exact l01Trace_any _ _ _ _ _ hM) | rfl
        simp only [Act.put, List.setIfInBounds_toArray, List.set_cons_zero, List.set_cons_succ]
        intro w1 hw1
        have hb1 := hw1.below
        clear hw1
        obtain ⟨hc1, hf1⟩ := bcell hb1
        have hz0 : w.heap.size < w1.heap.size := by have := hb1.size; (try simp at this); omega
        have hB : Below w.heap.size w w1 := bfin (by go_grown) hb1
        go_wp2_with fail
        all_goals first | (exfalso; omega) | (go_ret; exact ⟨rfl, hB⟩)
      · rw [hk]
        clear hk
        go_enter Try.func55, Try.ntmps55
        go_wp2_with fail
        refine wp_region_ord [(0, false), (1, false), (2, false), (3, false), (4, false), (5, false), (6, false)] (by kernel_rfl) (by kernel_rfl) ?_
        refine ord_q (o := ?o_50) (v := ?v_50) ?ho_50 ?hw_50 ?hq_50 ?_
        case ho_50 => simp only [List.getElem?_toArray, List.getElem?_cons_zero]; rfl
        case hw_50 => rfl
        case hq_50 =>
          intro W1 hW1
          obtain ⟨hcw, hfw⟩ := bcell hW1
          go_simp
          first | (go_at_call 88; exact l01Trace_any _ _ _ _ _ hM) | rfl
        simp only [Act.put, List.setIfInBounds_toArray, List.set_cons_zero, List.set_cons_succ]
        refine ord_q (o := ?o_51) (v := ?v_51) ?ho_51 ?hw_51 ?hq_51 ?_
        case ho_51 => simp only [List.getElem?_toArray, List.getElem?_cons_succ, List.getElem?_cons_zero]; rfl
        case hw_51 => rfl
        case hq_51 =>
          intro W1 hW1
          obtain ⟨hcw, hfw⟩ := bcell hW1
          go_simp
          first | (go_at_call 88; exact l01Trace_any _ _ _ _ _ hM) | rfl
        simp only [Act.put, List.setIfInBounds_toArray, List.set_cons_zero, List.set_cons_succ]
        refine ord_q (o := ?o_52) (v := ?v_52) ?ho_52 ?hw_52 ?hq_52 ?_
        case ho_52 => simp only [List.getElem?_toArray, List.getElem?_cons_succ, List.getElem?_cons_zero]; rfl
        case hw_52 => rfl
        case hq_52 =>
          intro W1 hW1
          obtain ⟨hcw, hfw⟩ := bcell hW1
          go_simp
          first | (go_at_call 88; exact l01Trace_any _ _ _ _ _ hM) | rfl
        simp only [Act.put, List.setIfInBounds_toArray, List.set_cons_zero, List.set_cons_succ]
        refine ord_q (o := ?o_53) (v := ?v_53) ?ho_53 ?hw_53 ?hq_53 ?_
        case ho_53 => simp only [List.getElem?_toArray, List.getElem?_cons_succ, List.getElem?_cons_zero]; rfl
        case hw_53 => rfl
        case hq_53 =>
          intro W1 hW1
          obtain ⟨hcw, hfw⟩ := bcell hW1
          go_simp
          first | (go_at_call 88; exact l01Trace_any _ _ _ _ _ hM) | rfl
        simp only [Act.put, List.setIfInBounds_toArray, List.set_cons_zero, List.set_cons_succ]
        refine ord_q (o := ?o_54) (v := ?v_54) ?ho_54 ?hw_54 ?hq_54 ?_
        case ho_54 => simp only [List.getElem?_toArray, List.getElem?_cons_succ, List.getElem?_cons_zero]; rfl
        case hw_54 => rfl
        case hq_54 =>
          intro W1 hW1
          obtain ⟨hcw, hfw⟩ := bcell hW1
          go_simp
          first | (go_at_call 88; exact l01Trace_any _ _ _ _ _ hM) | rfl
        simp only [Act.put, List.setIfInBounds_toArray, List.set_cons_zero, List.set_cons_succ]
        refine ord_q (o := ?o_55) (v := ?v_55) ?ho_55 ?hw_55 ?hq_55 ?_
        case ho_55 => simp only [List.getElem?_toArray, List.getElem?_cons_succ, List.getElem?_cons_zero]; rfl
        case hw_55 => rfl
        case hq_55 =>
          intro W1 hW1
          obtain ⟨hcw, hfw⟩ := bcell hW1
          go_simp
          first | (go_at_call 88; exact l01Trace_any _ _ _ _ _ hM) | rfl
        simp only [Act.put, List.setIfInBounds_toArray, List.set_cons_zero, List.set_cons_succ]
        refine ord_q (o := ?o_56) (v := ?v_56) ?ho_56 ?hw_56 ?hq_56 ?_
        case ho_56 => simp only [List.getElem?_toArray, List.getElem?_cons_succ, List.getElem?_cons_zero]; rfl
        case hw_56 => rfl
        case hq_56 =>
          intro W1 hW1
          obtain ⟨hcw, hfw⟩ := bcell hW1
          go_simp
          first | (go_at_call 88; exact l01Trace_any _ _ _ _ _ hM) | rfl
        simp only [Act.put, List.setIfInBounds_toArray, List.set_cons_zero, List.set_cons_succ]
        intro w1 hw1
        have hb1 := hw1.below
        clear hw1
        obtain ⟨hc1, hf1⟩ := bcell hb1
        have hz0 : w.heap.size < w1.heap.size := by have := hb1.size; (try simp at this); omega
        have hB : Below w.heap.size w w1 := bfin (by go_grown) hb1
        go_wp2_with fail
        all_goals first | (exfalso; omega) | (go_ret; exact ⟨rfl, hB⟩)
  · have hn : ¬ (b = 0 ∧ c = 0) := by simp at e1; exact fun h => e1 h.1
    have HN := Lib.hid hn
    clear hn
    by_cases hs : a + d < 0
    · rcases hkk.out HN.out (-(a + d)) (by omega) with ⟨h1, hk⟩ | ⟨h2, h1, hk⟩ | ⟨h2, h1, hk⟩
      · rw [hk]
        clear hk
        go_enter Try.func55, Try.ntmps55
        go_wp2_with fail
        refine wp_region_ord [(0, false), (1, false), (2, false), (3, false), (4, false), (5, false), (6, false)] (by kernel_rfl) (by kernel_rfl) ?_
        refine ord_q (o := ?o_57) (v := ?v_57) ?ho_57 ?hw_57 ?hq_57 ?_
        case ho_57 => simp only [List.getElem?_toArray, List.getElem?_cons_zero]; rfl
        case hw_57 => rfl
        case hq_57 =>
          intro W1 hW1
          obtain ⟨hcw, hfw⟩ := bcell hW1
          go_simp
          first | (go_at_call 88; exact l01Trace_any _ _ _ _ _ hM) | rfl
        simp only [Act.put, List.setIfInBounds_toArray, List.set_cons_zero, List.set_cons_succ]
        refine ord_q (o := ?o_58) (v := ?v_58) ?ho_58 ?hw_58 ?hq_58 ?_
        case ho_58 => simp only [List.getElem?_toArray, List.getElem?_cons_succ, List.getElem?_cons_zero]; rfl
        case hw_58 => rfl
        case hq_58 =>
          intro W1 hW1
          obtain ⟨hcw, hfw⟩ := bcell hW1
          go_simp
          first | (go_at_call 88; exact l01Trace_any _ _ _ _ _ hM) | rfl
        simp only [Act.put, List.setIfInBounds_toArray, List.set_cons_zero, List.set_cons_succ]
        refine ord_q (o := ?o_59) (v := ?v_59) ?ho_59 ?hw_59 ?hq_59 ?_
        case ho_59 => simp only [List.getElem?_toArray, List.getElem?_cons_succ, List.getElem?_cons_zero]; rfl
        case hw_59 => rfl
        case hq_59 =>
          intro W1 hW1
          obtain ⟨hcw, hfw⟩ := bcell hW1
          go_simp
          first | (go_at_call 88; exact l01Trace_any _ _ _ _ _ hM) | rfl
        simp only [Act.put, List.setIfInBounds_toArray, List.set_cons_zero, List.set_cons_succ]
        refine ord_q (o := ?o_60) (v := ?v_60) ?ho_60 ?hw_60 ?hq_60 ?_
        case ho_60 => simp only [List.getElem?_toArray, List.getElem?_cons_succ, List.getElem?_cons_zero]; rfl
        case hw_60 => rfl
        case hq_60 =>
          intro W1 hW1
          obtain ⟨hcw, hfw⟩ := bcell hW1
          go_simp
          first | (go_at_call 88; exact l01Trace_any _ _ _ _ _ hM) | rfl
        simp only [Act.put, List.setIfInBounds_toArray, List.set_cons_zero, List.set_cons_succ]
        refine ord_q (o := ?o_61) (v := ?v_61) ?ho_61 ?hw_61 ?hq_61 ?_
        case ho_61 => simp only [List.getElem?_toArray, List.getElem?_cons_succ, List.getElem?_cons_zero]; rfl
        case hw_61 => rfl
        case hq_61 =>
          intro W1 hW1
          obtain ⟨hcw, hfw⟩ := bcell hW1
          go_simp
          first | (go_at_call 88; exact l01Trace_any _ _ _ _ _ hM) | rfl
        simp only [Act.put, List.setIfInBounds_toArray, List.set_cons_zero, List.set_cons_succ]
        refine ord_q (o := ?o_62) (v := ?v_62) ?ho_62 ?hw_62 ?hq_62 ?_
        case ho_62 => simp only [List.getElem?_toArray, List.getElem?_cons_succ, List.getElem?_cons_zero]; rfl
        case hw_62 => rfl
        case hq_62 =>
          intro W1 hW1
          obtain ⟨hcw, hfw⟩ := bcell hW1
          go_simp
          first | (go_at_call 88; exact l01Trace_any _ _ _ _ _ hM) | rfl
        simp only [Act.put, List.setIfInBounds_toArray, List.set_cons_zero, List.set_cons_succ]
        refine ord_q (o := ?o_63) (v := ?v_63) ?ho_63 ?hw_63 ?hq_63 ?_
        case ho_63 => simp only [List.getElem?_toArray, List.getElem?_cons_succ, List.getElem?_cons_zero]; rfl
        case hw_63 => rfl
        case hq_63 =>
          intro W1 hW1
          obtain ⟨hcw, hfw⟩ := bcell hW1
          go_simp
          first | (go_at_call 88; exact l01Trace_any _ _ _ _ _ hM) | rfl
        simp only [Act.put, List.setIfInBounds_toArray, List.set_cons_zero, List.set_cons_succ]
        intro w1 hw1
        have hb1 := hw1.below
        clear hw1
        obtain ⟨hc1, hf1⟩ := bcell hb1
        have hz0 : w.heap.size < w1.heap.size := by have := hb1.size; (try simp at this); omega
        have hB : Below w.heap.size w w1 := bfin (by go_grown) hb1
        go_wp2_with fail
        all_goals first | (exfalso; omega) | (go_ret; exact ⟨rfl, hB⟩)
      · rw [hk]
        clear hk
        go_enter Try.func55, Try.ntmps55
        go_wp2_with fail
        refine wp_region_ord [(0, false), (1, false), (2, false), (3, false), (4, false), (5, false), (6, false)] (by kernel_rfl) (by kernel_rfl) ?_
        refine ord_q (o := ?o_64) (v := ?v_64) ?ho_64 ?hw_64 ?hq_64 ?_
        case ho_64 => simp only [List.getElem?_toArray, List.getElem?_cons_zero]; rfl
        case hw_64 => rfl
        case hq_64 =>
          intro W1 hW1
          obtain ⟨hcw, hfw⟩ := bcell hW1
          go_simp
          first | (go_at_call 88; exact l01Trace_any _ _ _ _ _ hM) | rfl
        simp only [Act.put, List.setIfInBounds_toArray, List.set_cons_zero, List.set_cons_succ]
        refine ord_q (o := ?o_65) (v := ?v_65) ?ho_65 ?hw_65 ?hq_65 ?_
        case ho_65 => simp only [List.getElem?_toArray, List.getElem?_cons_succ, List.getElem?_cons_zero]; rfl
        case hw_65 => rfl
        case hq_65 =>
          intro W1 hW1
          obtain ⟨hcw, hfw⟩ := bcell hW1
          go_simp
          first | (go_at_call 88; exact l01Trace_any _ _ _ _ _ hM) | rfl
        simp only [Act.put, List.setIfInBounds_toArray, List.set_cons_zero, List.set_cons_succ]
        refine ord_q (o := ?o_66) (v := ?v_66) ?ho_66 ?hw_66 ?hq_66 ?_
        case ho_66 => simp only [List.getElem?_toArray, List.getElem?_cons_succ, List.getElem?_cons_zero]; rfl
        case hw_66 => rfl
        case hq_66 =>
          intro W1 hW1
          obtain ⟨hcw, hfw⟩ := bcell hW1
          go_simp
          first | (go_at_call 88; exact l01Trace_any _ _ _ _ _ hM) | rfl
        simp only [Act.put, List.setIfInBounds_toArray, List.set_cons_zero, List.set_cons_succ]
        refine ord_q (o := ?o_67) (v := ?v_67) ?ho_67 ?hw_67 ?hq_67 ?_
        case ho_67 => simp only [List.getElem?_toArray, List.getElem?_cons_succ, List.getElem?_cons_zero]; rfl
        case hw_67 => rfl
        case hq_67 =>
          intro W1 hW1
          obtain ⟨hcw, hfw⟩ := bcell hW1
          go_simp
          first | (go_at_call 88; exact l01Trace_any _ _ _ _ _ hM) | rfl
        simp only [Act.put, List.setIfInBounds_toArray, List.set_cons_zero, List.set_cons_succ]
        refine ord_q (o := ?o_68) (v := ?v_68) ?ho_68 ?hw_68 ?hq_68 ?_
        case ho_68 => simp only [List.getElem?_toArray, List.getElem?_cons_succ, List.getElem?_cons_zero]; rfl
        case hw_68 => rfl
        case hq_68 =>
          intro W1 hW1
          obtain ⟨hcw, hfw⟩ := bcell hW1
          go_simp
          first | (go_at_call 88; exact l01Trace_any _ _ _ _ _ hM) | rfl
        simp only [Act.put, List.setIfInBounds_toArray, List.set_cons_zero, List.set_cons_succ]
        refine ord_q (o := ?o_69) (v := ?v_69) ?ho_69 ?hw_69 ?hq_69 ?_
        case ho_69 => simp only [List.getElem?_toArray, List.getElem?_cons_succ, List.getElem?_cons_zero]; rfl
        case hw_69 => rfl
        case hq_69 =>
          intro W1 hW1
          obtain ⟨hcw, hfw⟩ := bcell hW1
          go_simp
          first | (go_at_call 88; exact l01Trace_any _ _ _ _ _ hM) | rfl
        simp only [Act.put, List.setIfInBounds_toArray, List.set_cons_zero, List.set_cons_succ]
        refine ord_q (o := ?o_70) (v := ?v_70) ?ho_70 ?hw_70 ?hq_70 ?_
        case ho_70 => simp only [List.getElem?_toArray, List.getElem?_cons_succ, List.getElem?_cons_zero]; rfl
        case hw_70 => rfl
        case hq_70 =>
          intro W1 hW1
          obtain ⟨hcw, hfw⟩ := bcell hW1
          go_simp
          first | (go_at_call 88; exact l01Trace_any _ _ _ _ _ hM) | rfl
        simp only [Act.put, List.setIfInBounds_toArray, List.set_cons_zero, List.set_cons_succ]
        intro w1 hw1
        have hb1 := hw1.below
        clear hw1
        obtain ⟨hc1, hf1⟩ := bcell hb1
        have hz0 : w.heap.size < w1.heap.size := by have := hb1.size; (try simp at this); omega
        have hB : Below w.heap.size w w1 := bfin (by go_grown) hb1
        go_wp2_with fail
        all_goals first | (exfalso; omega) | (go_ret; exact ⟨rfl, hB⟩)
      · rw [hk]
        clear hk
        go_enter Try.func55, Try.ntmps55
        go_wp2_with fail
        refine wp_region_ord [(0, false), (1, false), (2, false), (3, false), (4, false), (5, false), (6, false)] (by kernel_rfl) (by kernel_rfl) ?_
        refine ord_q (o := ?o_71) (v := ?v_71) ?ho_71 ?hw_71 ?hq_71 ?_
        case ho_71 => simp only [List.getElem?_toArray, List.getElem?_cons_zero]; rfl
        case hw_71 => rfl
        case hq_71 =>
          intro W1 hW1
          obtain ⟨hcw, hfw⟩ := bcell hW1
          go_simp
          first | (go_at_call 88; exact l01Trace_any _ _ _ _ _ hM) | rfl
        simp only [Act.put, List.setIfInBounds_toArray, List.set_cons_zero, List.set_cons_succ]
        refine ord_q (o := ?o_72) (v := ?v_72) ?ho_72 ?hw_72 ?hq_72 ?_
        case ho_72 => simp only [List.getElem?_toArray, List.getElem?_cons_succ, List.getElem?_cons_zero]; rfl
        case hw_72 => rfl
        case hq_72 =>
          intro W1 hW1
          obtain ⟨hcw, hfw⟩ := bcell hW1
          go_simp
          first | (go_at_call 88; exact l01Trace_any _ _ _ _ _ hM) | rfl
        simp only [Act.put, List.setIfInBounds_toArray, List.set_cons_zero, List.set_cons_succ]
        refine ord_q (o := ?o_73) (v := ?v_73) ?ho_73 ?hw_73 ?hq_73 ?_
        case ho_73 => simp only [List.getElem?_toArray, List.getElem?_cons_succ, List.getElem?_cons_zero]; rfl
        case hw_73 => rfl
        case hq_73 =>
          intro W1 hW1
          obtain ⟨hcw, hfw⟩ := bcell hW1
          go_simp
          first | (go_at_call 88; exact l01Trace_any _ _ _ _ _ hM) | rfl
        simp only [Act.put, List.setIfInBounds_toArray, List.set_cons_zero, List.set_cons_succ]
        refine ord_q (o := ?o_74) (v := ?v_74) ?ho_74 ?hw_74 ?hq_74 ?_
        case ho_74 => simp only [List.getElem?_toArray, List.getElem?_cons_succ, List.getElem?_cons_zero]; rfl
        case hw_74 => rfl
        case hq_74 =>
          intro W1 hW1
          obtain ⟨hcw, hfw⟩ := bcell hW1
          go_simp
          first | (go_at_call 88; exact l01Trace_any _ _ _ _ _ hM) | rfl
        simp only [Act.put, List.setIfInBounds_toArray, List.set_cons_zero, List.set_cons_succ]
        refine ord_q (o := ?o_75) (v := ?v_75) ?ho_75 ?hw_75 ?hq_75 ?_
        case ho_75 => simp only [List.getElem?_toArray, List.getElem?_cons_succ, List.getElem?_cons_zero]; rfl
        case hw_75 => rfl
        case hq_75 =>
          intro W1 hW1
          obtain ⟨hcw, hfw⟩ := bcell hW1
          go_simp
          first | (go_at_call 88; exact l01Trace_any _ _ _ _ _ hM) | rfl
        simp only [Act.put, List.setIfInBounds_toArray, List.set_cons_zero, List.set_cons_succ]
        refine ord_q (o := ?o_76) (v := ?v_76) ?ho_76 ?hw_76 ?hq_76 ?_
        case ho_76 => simp only [List.getElem?_toArray, List.getElem?_cons_succ, List.getElem?_cons_zero]; rfl
        case hw_76 => rfl
        case hq_76 =>
          intro W1 hW1
          obtain ⟨hcw, hfw⟩ := bcell hW1
          go_simp
          first | (go_at_call 88; exact l01Trace_any _ _ _ _ _ hM) | rfl
        simp only [Act.put, List.setIfInBounds_toArray, List.set_cons_zero, List.set_cons_succ]
        refine ord_q (o := ?o_77) (v := ?v_77) ?ho_77 ?hw_77 ?hq_77 ?_
        case ho_77 => simp only [List.getElem?_toArray, List.getElem?_cons_succ, List.getElem?_cons_zero]; rfl
        case hw_77 => rfl
        case hq_77 =>
          intro W1 hW1
          obtain ⟨hcw, hfw⟩ := bcell hW1
          go_simp
          first | (go_at_call 88; exact l01Trace_any _ _ _ _ _ hM) | rfl
        simp only [Act.put, List.setIfInBounds_toArray, List.set_cons_zero, List.set_cons_succ]
        intro w1 hw1
        have hb1 := hw1.below
        clear hw1
        obtain ⟨hc1, hf1⟩ := bcell hb1
        have hz0 : w.heap.size < w1.heap.size := by have := hb1.size; (try simp at this); omega
        have hB : Below w.heap.size w w1 := bfin (by go_grown) hb1
        go_wp2_with fail
        all_goals first | (exfalso; omega) | (go_ret; exact ⟨rfl, hB⟩)
    · rcases hkk.out HN.out (a + d) (by omega) with ⟨h1, hk⟩ | ⟨h2, h1, hk⟩ | ⟨h2, h1, hk⟩
      · rw [hk]
        clear hk
        go_enter Try.func55, Try.ntmps55
        go_wp2_with fail
        refine wp_region_ord [(0, false), (1, false), (2, false), (3, false), (4, false), (5, false), (6, false)] (by kernel_rfl) (by kernel_rfl) ?_
        refine ord_q (o := ?o_78) (v := ?v_78) ?ho_78 ?hw_78 ?hq_78 ?_
        case ho_78 => simp only [List.getElem?_toArray, List.getElem?_cons_zero]; rfl
        case hw_78 => rfl
        case hq_78 =>
          intro W1 hW1
          obtain ⟨hcw, hfw⟩ := bcell hW1
          go_simp
          first | (go_at_call 88; exact l01Trace_any _ _ _ _ _ hM) | rfl
        simp only [Act.put, List.setIfInBounds_toArray, List.set_cons_zero, List.set_cons_succ]
        refine ord_q (o := ?o_79) (v := ?v_79) ?ho_79 ?hw_79 ?hq_79 ?_
        case ho_79 => simp only [List.getElem?_toArray, List.getElem?_cons_succ, List.getElem?_cons_zero]; rfl
        case hw_79 => rfl
        case hq_79 =>
          intro W1 hW1
          obtain ⟨hcw, hfw⟩ := bcell hW1
          go_simp
          first | (go_at_call 88; exact l01Trace_any _ _ _ _ _ hM) | rfl
        simp only [Act.put, List.setIfInBounds_toArray, List.set_cons_zero, List.set_cons_succ]
        refine ord_q (o := ?o_80) (v := ?v_80) ?ho_80 ?hw_80 ?hq_80 ?_
        case ho_80 => simp only [List.getElem?_toArray, List.getElem?_cons_succ, List.getElem?_cons_zero]; rfl
        case hw_80 => rfl
        case hq_80 =>
          intro W1 hW1
          obtain ⟨hcw, hfw⟩ := bcell hW1
          go_simp
          first | (go_at_call 88; exact l01Trace_any _ _ _ _ _ hM) | rfl
        simp only [Act.put, List.setIfInBounds_toArray, List.set_cons_zero, List.set_cons_succ]
        refine ord_q (o := ?o_81) (v := ?v_81) ?ho_81 ?hw_81 ?hq_81 ?_
        case ho_81 => simp only [List.getElem?_toArray, List.getElem?_cons_succ, List.getElem?_cons_zero]; rfl
        case hw_81 => rfl
        case hq_81 =>
          intro W1 hW1
          obtain ⟨hcw, hfw⟩ := bcell hW1
          go_simp
          first | (go_at_call 88; exact l01Trace_any _ _ _ _ _ hM) | rfl
        simp only [Act.put, List.setIfInBounds_toArray, List.set_cons_zero, List.set_cons_succ]
        refine ord_q (o := ?o_82) (v := ?v_82) ?ho_82 ?hw_82 ?hq_82 ?_
        case ho_82 => simp only [List.getElem?_toArray, List.getElem?_cons_succ, List.getElem?_cons_zero]; rfl
        case hw_82 => rfl
        case hq_82 =>
          intro W1 hW1
          obtain ⟨hcw, hfw⟩ := bcell hW1
          go_simp
          first | (go_at_call 88; exact l01Trace_any _ _ _ _ _ hM) | rfl
        simp only [Act.put, List.setIfInBounds_toArray, List.set_cons_zero, List.set_cons_succ]
        refine ord_q (o := ?o_83) (v := ?v_83) ?ho_83 ?hw_83 ?hq_83 ?_
        case ho_83 => simp only [List.getElem?_toArray, List.getElem?_cons_succ, List.getElem?_cons_zero]; rfl
        case hw_83 => rfl
        case hq_83 =>
          intro W1 hW1
          obtain ⟨hcw, hfw⟩ := bcell hW1
          go_simp
          first | (go_at_call 88; exact l01Trace_any _ _ _ _ _ hM) | rfl
        simp only [Act.put, List.setIfInBounds_toArray, List.set_cons_zero, List.set_cons_succ]
        refine ord_q (o := ?o_84) (v := ?v_84) ?ho_84 ?hw_84 ?hq_84 ?_
        case ho_84 => simp only [List.getElem?_toArray, List.getElem?_cons_succ, List.getElem?_cons_zero]; rfl
        case hw_84 => rfl
        case hq_84 =>
          intro W1 hW1
          obtain ⟨hcw, hfw⟩ := bcell hW1
          go_simp
          first | (go_at_call 88; exact l01Trace_any _ _ _ _ _ hM) | rfl
        simp only [Act.put, List.setIfInBounds_toArray, List.set_cons_zero, List.set_cons_succ]
        intro w1 hw1
        have hb1 := hw1.below
        clear hw1
        obtain ⟨hc1, hf1⟩ := bcell hb1
        have hz0 : w.heap.size < w1.heap.size := by have := hb1.size; (try simp at this); omega
        have hB : Below w.heap.size w w1 := bfin (by go_grown) hb1
        go_wp2_with fail
        all_goals first | (exfalso; omega) | (go_ret; exact ⟨rfl, hB⟩)
      · rw [hk]
        clear hk
        go_enter Try.func55, Try.ntmps55
        go_wp2_with fail
        refine wp_region_ord [(0, false), (1, false), (2, false), (3, false), (4, false), (5, false), (6, false)] (by kernel_rfl) (by kernel_rfl) ?_
        refine ord_q (o := ?o_85) (v := ?v_85) ?ho_85 ?hw_85 ?hq_85 ?_
        case ho_85 => simp only [List.getElem?_toArray, List.getElem?_cons_zero]; rfl
        case hw_85 => rfl
        case hq_85 =>
          intro W1 hW1
          obtain ⟨hcw, hfw⟩ := bcell hW1
          go_simp
          first | (go_at_call 88; exact l01Trace_any _ _ _ _ _ hM) | rfl
        simp only [Act.put, List.setIfInBounds_toArray, List.set_cons_zero, List.set_cons_succ]
        refine ord_q (o := ?o_86) (v := ?v_86) ?ho_86 ?hw_86 ?hq_86 ?_
        case ho_86 => simp only [List.getElem?_toArray, List.getElem?_cons_succ, List.getElem?_cons_zero]; rfl
        case hw_86 => rfl
        case hq_86 =>
          intro W1 hW1
          obtain ⟨hcw, hfw⟩ := bcell hW1
          go_simp
          first | (go_at_call 88; exact l01Trace_any _ _ _ _ _ hM) | rfl
        simp only [Act.put, List.setIfInBounds_toArray, List.set_cons_zero, List.set_cons_succ]
        refine ord_q (o := ?o_87) (v := ?v_87) ?ho_87 ?hw_87 ?hq_87 ?_
        case ho_87 => simp only [List.getElem?_toArray, List.getElem?_cons_succ, List.getElem?_cons_zero]; rfl
        case hw_87 => rfl
        case hq_87 =>
          intro W1 hW1
          obtain ⟨hcw, hfw⟩ := bcell hW1
          go_simp
          first | (go_at_call 88; exact l01Trace_any _ _ _ _ _ hM) | rfl
        simp only [Act.put, List.setIfInBounds_toArray, List.set_cons_zero, List.set_cons_succ]
        refine ord_q (o := ?o_88) (v := ?v_88) ?ho_88 ?hw_88 ?hq_88 ?_
        case ho_88 => simp only [List.getElem?_toArray, List.getElem?_cons_succ, List.getElem?_cons_zero]; rfl
        case hw_88 => rfl
        case hq_88 =>
          intro W1 hW1
          obtain ⟨hcw, hfw⟩ := bcell hW1
          go_simp
          first | (go_at_call 88; exact l01Trace_any _ _ _ _ _ hM) | rfl
        simp only [Act.put, List.setIfInBounds_toArray, List.set_cons_zero, List.set_cons_succ]
        refine ord_q (o := ?o_89) (v := ?v_89) ?ho_89 ?hw_89 ?hq_89 ?_
        case ho_89 => simp only [List.getElem?_toArray, List.getElem?_cons_succ, List.getElem?_cons_zero]; rfl
        case hw_89 => rfl
        case hq_89 =>
          intro W1 hW1
          obtain ⟨hcw, hfw⟩ := bcell hW1
          go_simp
          first | (go_at_call 88; exact l01Trace_any _ _ _ _ _ hM) | rfl
        simp only [Act.put, List.setIfInBounds_toArray, List.set_cons_zero, List.set_cons_succ]
        refine ord_q (o := ?o_90) (v := ?v_90) ?ho_90 ?hw_90 ?hq_90 ?_
        case ho_90 => simp only [List.getElem?_toArray, List.getElem?_cons_succ, List.getElem?_cons_zero]; rfl
        case hw_90 => rfl
        case hq_90 =>
          intro W1 hW1
          obtain ⟨hcw, hfw⟩ := bcell hW1
          go_simp
          first | (go_at_call 88; exact l01Trace_any _ _ _ _ _ hM) | rfl
        simp only [Act.put, List.setIfInBounds_toArray, List.set_cons_zero, List.set_cons_succ]
        refine ord_q (o := ?o_91) (v := ?v_91) ?ho_91 ?hw_91 ?hq_91 ?_
        case ho_91 => simp only [List.getElem?_toArray, List.getElem?_cons_succ, List.getElem?_cons_zero]; rfl
        case hw_91 => rfl
        case hq_91 =>
          intro W1 hW1
          obtain ⟨hcw, hfw⟩ := bcell hW1
          go_simp
          first | (go_at_call 88; exact l01Trace_any _ _ _ _ _ hM) | rfl
        simp only [Act.put, List.setIfInBounds_toArray, List.set_cons_zero, List.set_cons_succ]
        intro w1 hw1
        have hb1 := hw1.below
        clear hw1
        obtain ⟨hc1, hf1⟩ := bcell hb1
        have hz0 : w.heap.size < w1.heap.size := by have := hb1.size; (try simp at this); omega
        have hB : Below w.heap.size w w1 := bfin (by go_grown) hb1
        go_wp2_with fail
        all_goals first | (exfalso; omega) | (go_ret; exact ⟨rfl, hB⟩)
      · rw [hk]
        clear hk
        go_enter Try.func55, Try.ntmps55
        go_wp2_with fail
        refine wp_region_ord [(0, false), (1, false), (2, false), (3, false), (4, false), (5, false), (6, false)] (by kernel_rfl) (by kernel_rfl) ?_
        refine ord_q (o := ?o_92) (v := ?v_92) ?ho_92 ?hw_92 ?hq_92 ?_
        case ho_92 => simp only [List.getElem?_toArray, List.getElem?_cons_zero]; rfl
        case hw_92 => rfl
        case hq_92 =>
          intro W1 hW1
          obtain ⟨hcw, hfw⟩ := bcell hW1
          go_simp
          first | (go_at_call 88; exact l01Trace_any _ _ _ _ _ hM) | rfl
        simp only [Act.put, List.setIfInBounds_toArray, List.set_cons_zero, List.set_cons_succ]
        refine ord_q (o := ?o_93) (v := ?v_93) ?ho_93 ?hw_93 ?hq_93 ?_
        case ho_93 => simp only [List.getElem?_toArray, List.getElem?_cons_succ, List.getElem?_cons_zero]; rfl
        case hw_93 => rfl
        case hq_93 =>
          intro W1 hW1
          obtain ⟨hcw, hfw⟩ := bcell hW1
          go_simp
          first | (go_at_call 88; exact l01Trace_any _ _ _ _ _ hM) | rfl
        simp only [Act.put, List.setIfInBounds_toArray, List.set_cons_zero, List.set_cons_succ]
        refine ord_q (o := ?o_94) (v := ?v_94) ?ho_94 ?hw_94 ?hq_94 ?_
        case ho_94 => simp only [List.getElem?_toArray, List.getElem?_cons_succ, List.getElem?_cons_zero]; rfl
        case hw_94 => rfl
        case hq_94 =>
          intro W1 hW1
          obtain ⟨hcw, hfw⟩ := bcell hW1
          go_simp
          first | (go_at_call 88; exact l01Trace_any _ _ _ _ _ hM) | rfl
        simp only [Act.put, List.setIfInBounds_toArray, List.set_cons_zero, List.set_cons_succ]
        refine ord_q (o := ?o_95) (v := ?v_95) ?ho_95 ?hw_95 ?hq_95 ?_
        case ho_95 => simp only [List.getElem?_toArray, List.getElem?_cons_succ, List.getElem?_cons_zero]; rfl
        case hw_95 => rfl
        case hq_95 =>
          intro W1 hW1
          obtain ⟨hcw, hfw⟩ := bcell hW1
          go_simp
          first | (go_at_call 88; exact l01Trace_any _ _ _ _ _ hM) | rfl
        simp only [Act.put, List.setIfInBounds_toArray, List.set_cons_zero, List.set_cons_succ]
        refine ord_q (o := ?o_96) (v := ?v_96) ?ho_96 ?hw_96 ?hq_96 ?_
        case ho_96 => simp only [List.getElem?_toArray, List.getElem?_cons_succ, List.getElem?_cons_zero]; rfl
        case hw_96 => rfl
        case hq_96 =>
          intro W1 hW1
          obtain ⟨hcw, hfw⟩ := bcell hW1
          go_simp
          first | (go_at_call 88; exact l01Trace_any _ _ _ _ _ hM) | rfl
        simp only [Act.put, List.setIfInBounds_toArray, List.set_cons_zero, List.set_cons_succ]
        refine ord_q (o := ?o_97) (v := ?v_97) ?ho_97 ?hw_97 ?hq_97 ?_
        case ho_97 => simp only [List.getElem?_toArray, List.getElem?_cons_succ, List.getElem?_cons_zero]; rfl
        case hw_97 => rfl
        case hq_97 =>
          intro W1 hW1
          obtain ⟨hcw, hfw⟩ := bcell hW1
          go_simp
          first | (go_at_call 88; exact l01Trace_any _ _ _ _ _ hM) | rfl
        simp only [Act.put, List.setIfInBounds_toArray, List.set_cons_zero, List.set_cons_succ]
        refine ord_q (o := ?o_98) (v := ?v_98) ?ho_98 ?hw_98 ?hq_98 ?_
        case ho_98 => simp only [List.getElem?_toArray, List.getElem?_cons_succ, List.getElem?_cons_zero]; rfl
        case hw_98 => rfl
        case hq_98 =>
          intro W1 hW1
          obtain ⟨hcw, hfw⟩ := bcell hW1
          go_simp
          first | (go_at_call 88; exact l01Trace_any _ _ _ _ _ hM) | rfl
        simp only [Act.put, List.setIfInBounds_toArray, List.set_cons_zero, List.set_cons_succ]
        intro w1 hw1
        have hb1 := hw1.below
        clear hw1
        obtain ⟨hc1, hf1⟩ := bcell hb1
        have hz0 : w.heap.size < w1.heap.size := by have := hb1.size; (try simp at this); omega
        have hB : Below w.heap.size w w1 := bfin (by go_grown) hb1
        go_wp2_with fail
        all_goals first | (exfalso; omega) | (go_ret; exact ⟨rfl, hB⟩)
end Go.Proofs.Ytcaiofhdcffogaa
/- Contracts: the form of a matrix. -/
namespace Go.Proofs.Ytcaiofhdcffogaa
open Go.RowKit
set_option maxRecDepth 100000 in
set_option maxHeartbeats 2000000 in
theorem FormOfMatrix_any (a b c d : Int) (w : World) :
    Calls Try.prog 20 #[(.agg #[.int .i64 a, .int .i64 b, .int .i64 c, .int .i64 d])] w fun e w' => e = .returned (.tuple #[(.agg #[.int .i64 ((formOfMat a b c d).1.x), .int .i64 ((formOfMat a b c d).1.y), .int .i64 ((formOfMat a b c d).1.z)]), (.int .i64 ((formOfMat a b c d).2))]) ∧ Below w.heap.size w w' := by
  cases hM : isMat a b c d
  · rw [show formOfMat a b c d = (⟨0, 0, 0⟩, 1) by simp [formOfMat, hM]]
    go_enter Try.func20, Try.ntmps20
    go_wp2_with fail
    refine (IsMatrix_any _ _ _ _ _).mono ?_; rintro e w1 ⟨rfl, hb1⟩
    obtain ⟨hc1, hf1⟩ := bcell hb1
    obtain ⟨hz0, hz1⟩ : w.heap.size < w1.heap.size ∧ w.heap.size + 1 < w1.heap.size := by have := hb1.size; (try simp at this); omega
    have hB1 : Below w.heap.size w w1 := bfin (by go_grown) hb1
    go_wp2_with fail
    have hall := And.intro hc1 (And.intro hz0 (hz1))
    refine bodyPost_ret (v := .tuple #[(.agg #[.int .i64 0, .int .i64 0, .int .i64 0]), (.int .i64 1)]) (by first | (simp [results, Try.results20, go_sem]; done) | (simp [results, Try.results20, go_sem, hall] <;> rfl)) rfl ⟨rfl, by go_grown⟩
  have hm := isMat_iff.1 hM
  rw [show formOfMat a b c d = formOfM a b c d by simp [formOfMat, hM]]
  by_cases hk : kindOf a b c d = 0
  · rw [show formOfM a b c d = (⟨0, 0, 0⟩, 5) by simp [formOfM, hk]]
    have HK := Lib.hid (kind_any a b c d)
    rw [hk] at HK
    clear hk
    go_enter Try.func20, Try.ntmps20
    go_wp2_with fail
    refine (IsMatrix_any _ _ _ _ _).mono ?_; rintro e w1 ⟨rfl, hb1⟩
    obtain ⟨hc1, hf1⟩ := bcell hb1
    obtain ⟨hz0, hz1⟩ : w.heap.size < w1.heap.size ∧ w.heap.size + 1 < w1.heap.size := by have := hb1.size; (try simp at this); omega
    go_wp2_with fail
    refine (HK.out _ hm).mono ?_; rintro e w2 ⟨rfl, hb2⟩
    replace hb2 := bstep hb1 hb2
    clear hc1 hf1 hb1
    obtain ⟨hc2, hf2⟩ := bcell hb2
    obtain ⟨hz0, hz1⟩ : w.heap.size < w2.heap.size ∧ w.heap.size + 1 < w2.heap.size := by have := hb2.size; (try simp at this); omega
    have hB2 : Below w.heap.size w w2 := bfin (by go_grown) hb2
    go_wp2_with fail
    have hall := And.intro hc2 (And.intro hz0 (hz1))
    refine bodyPost_ret (v := .tuple #[(.agg #[.int .i64 0, .int .i64 0, .int .i64 0]), (.int .i64 5)]) (by first | (simp [results, Try.results20, go_sem]; done) | (simp [results, Try.results20, go_sem, hall] <;> rfl)) rfl ⟨rfl, by go_grown⟩
  have hn := kind_ne hk
  have g1 := @formGcd_pos a b c d hn
  have g2 := formGcd_le hm hn
  obtain ⟨a0, a1, b0, b1, c0, c1, d0, d1, _⟩ := id hm
  have t1 := @tdiv_bd c (formGcd a b c d) 2000000000 (by omega) (by omega)
  have t2 := @tdiv_bd (d - a) (formGcd a b c d) 2000000000 (by omega) (by omega)
  have t3 := @tdiv_bd b (formGcd a b c d) 2000000000 (by omega) (by omega)
  have hgb : (Int.gcd c (d - a) : Int) ≤ 2000000000 := by
    have h2 := Int.gcd_dvd_left c (d - a)
    have h3 := Int.gcd_dvd_right c (d - a)
    rcases Int.lt_trichotomy c 0 with h | h | h
    · have := Int.le_of_dvd (show 0 < -c by omega) (Int.dvd_neg.2 h2); omega
    · rw [h]; simp; omega
    · have := Int.le_of_dvd h h2; omega
  have HD1 := Lib.hid (fun W => divisor_any c (d - a) W (by omega) (by omega) (by omega) (by omega))
  have HD2 := Lib.hid (fun W => divisor_any (Int.gcd c (d - a) : Int) (-b) W (by omega) (by omega) (by omega) (by omega))
  rw [show ((Int.gcd (Int.gcd c (d - a) : Int) (-b) : Nat) : Int) = formGcd a b c d from rfl] at HD2
  have hfm : formOfM a b c d = if smallB (c.tdiv (formGcd a b c d)) ((d - a).tdiv (formGcd a b c d)) (-(b.tdiv (formGcd a b c d))) = true then (⟨c.tdiv (formGcd a b c d), (d - a).tdiv (formGcd a b c d), -(b.tdiv (formGcd a b c d))⟩, 0) else (⟨0, 0, 0⟩, 3) := by simp [formOfM, hk]
  rw [hfm]
  clear hfm
  generalize formGcd a b c d = G at *
  generalize (Int.gcd c (d - a) : Int) = G1 at *
  have hk' : (kindOf a b c d == 0) = false := by simp [hk]
  obtain ⟨t10, t11⟩ := t1
  obtain ⟨t20, t21⟩ := t2
  obtain ⟨t30, t31⟩ := t3
  have hG0 : G ≠ 0 := by omega
  clear hk hn
  cases hs : smallB (c.tdiv G) ((d - a).tdiv G) (-(b.tdiv G))
  · rw [if_neg (by simp)]
    go_enter Try.func20, Try.ntmps20
    go_wp2_with fail
    refine (IsMatrix_any _ _ _ _ _).mono ?_; rintro e w1 ⟨rfl, hb1⟩
    obtain ⟨hc1, hf1⟩ := bcell hb1
    obtain ⟨hz0, hz1⟩ : w.heap.size < w1.heap.size ∧ w.heap.size + 1 < w1.heap.size := by have := hb1.size; (try simp at this); omega
    go_wp2_with fail
    refine (kind_any _ _ _ _ _ hm).mono ?_; rintro e w2 ⟨rfl, hb2⟩
    replace hb2 := bstep hb1 hb2
    clear hc1 hf1 hb1
    obtain ⟨hc2, hf2⟩ := bcell hb2
    obtain ⟨hz0, hz1⟩ : w.heap.size < w2.heap.size ∧ w.heap.size + 1 < w2.heap.size := by have := hb2.size; (try simp at this); omega
    go_wp2_with fail
    have hB2 : Below w.heap.size w w2 := bfin (by go_grown) hb2
    refine wp_region_ord [(0, false), (1, false), (2, false), (3, false), (4, false), (5, false), (6, false), (7, false), (8, false)] (by kernel_rfl) (by kernel_rfl) ?_
    refine ord_q (o := ?o_1) (v := ?v_1) ?ho_1 ?hw_1 ?hq_1 ?_
    case ho_1 => simp only [List.getElem?_toArray, List.getElem?_cons_zero]; rfl
    case hw_1 => rfl
    case hq_1 =>
      intro W1 hW1
      obtain ⟨hcw, hfw⟩ := bcell hW1
      go_simp
      first | (go_at_call 53; with_reducible exact HD1.out _) | (go_at_call 53; with_reducible exact HD2.out _) | rfl
    simp only [Act.put, List.setIfInBounds_toArray, List.set_cons_zero, List.set_cons_succ]
    refine ord_q (o := ?o_2) (v := ?v_2) ?ho_2 ?hw_2 ?hq_2 ?_
    case ho_2 => simp only [List.getElem?_toArray, List.getElem?_cons_succ, List.getElem?_cons_zero]; rfl
    case hw_2 => rfl
    case hq_2 =>
      intro W1 hW1
      obtain ⟨hcw, hfw⟩ := bcell hW1
      go_simp
      first | (go_at_call 53; with_reducible exact HD1.out _) | (go_at_call 53; with_reducible exact HD2.out _) | rfl
    simp only [Act.put, List.setIfInBounds_toArray, List.set_cons_zero, List.set_cons_succ]
    refine ord_q (o := ?o_3) (v := ?v_3) ?ho_3 ?hw_3 ?hq_3 ?_
    case ho_3 => simp only [List.getElem?_toArray, List.getElem?_cons_succ, List.getElem?_cons_zero]; rfl
    case hw_3 => rfl
    case hq_3 =>
      intro W1 hW1
      obtain ⟨hcw, hfw⟩ := bcell hW1
      go_simp
      first | (go_at_call 53; with_reducible exact HD1.out _) | (go_at_call 53; with_reducible exact HD2.out _) | rfl
    simp only [Act.put, List.setIfInBounds_toArray, List.set_cons_zero, List.set_cons_succ]
    refine ord_q (o := ?o_4) (v := ?v_4) ?ho_4 ?hw_4 ?hq_4 ?_
    case ho_4 => simp only [List.getElem?_toArray, List.getElem?_cons_succ, List.getElem?_cons_zero]; rfl
    case hw_4 => rfl
    case hq_4 =>
      intro W1 hW1
      obtain ⟨hcw, hfw⟩ := bcell hW1
      go_simp
      first | (go_at_call 53; with_reducible exact HD1.out _) | (go_at_call 53; with_reducible exact HD2.out _) | rfl
    simp only [Act.put, List.setIfInBounds_toArray, List.set_cons_zero, List.set_cons_succ]
    refine ord_q (o := ?o_5) (v := ?v_5) ?ho_5 ?hw_5 ?hq_5 ?_
    case ho_5 => simp only [List.getElem?_toArray, List.getElem?_cons_succ, List.getElem?_cons_zero]; rfl
    case hw_5 => rfl
    case hq_5 =>
      intro W1 hW1
      obtain ⟨hcw, hfw⟩ := bcell hW1
      go_simp
      first | (go_at_call 53; with_reducible exact HD1.out _) | (go_at_call 53; with_reducible exact HD2.out _) | rfl
    simp only [Act.put, List.setIfInBounds_toArray, List.set_cons_zero, List.set_cons_succ]
    refine ord_q (o := ?o_6) (v := ?v_6) ?ho_6 ?hw_6 ?hq_6 ?_
    case ho_6 => simp only [List.getElem?_toArray, List.getElem?_cons_succ, List.getElem?_cons_zero]; rfl
    case hw_6 => rfl
    case hq_6 =>
      intro W1 hW1
      obtain ⟨hcw, hfw⟩ := bcell hW1
      go_simp
      first | (go_at_call 53; with_reducible exact HD1.out _) | (go_at_call 53; with_reducible exact HD2.out _) | rfl
    simp only [Act.put, List.setIfInBounds_toArray, List.set_cons_zero, List.set_cons_succ]
    refine ord_q (o := ?o_7) (v := ?v_7) ?ho_7 ?hw_7 ?hq_7 ?_
    case ho_7 => simp only [List.getElem?_toArray, List.getElem?_cons_succ, List.getElem?_cons_zero]; rfl
    case hw_7 => rfl
    case hq_7 =>
      intro W1 hW1
      obtain ⟨hcw, hfw⟩ := bcell hW1
      go_simp
      first | (go_at_call 53; with_reducible exact HD1.out _) | (go_at_call 53; with_reducible exact HD2.out _) | rfl
    simp only [Act.put, List.setIfInBounds_toArray, List.set_cons_zero, List.set_cons_succ]
    refine ord_q (o := ?o_8) (v := ?v_8) ?ho_8 ?hw_8 ?hq_8 ?_
    case ho_8 => simp only [List.getElem?_toArray, List.getElem?_cons_succ, List.getElem?_cons_zero]; rfl
    case hw_8 => rfl
    case hq_8 =>
      intro W1 hW1
      obtain ⟨hcw, hfw⟩ := bcell hW1
      go_simp
      first | (go_at_call 53; with_reducible exact HD1.out _) | (go_at_call 53; with_reducible exact HD2.out _) | rfl
    simp only [Act.put, List.setIfInBounds_toArray, List.set_cons_zero, List.set_cons_succ]
    refine ord_q (o := ?o_9) (v := ?v_9) ?ho_9 ?hw_9 ?hq_9 ?_
    case ho_9 => simp only [List.getElem?_toArray, List.getElem?_cons_succ, List.getElem?_cons_zero]; rfl
    case hw_9 => rfl
    case hq_9 =>
      intro W1 hW1
      obtain ⟨hcw, hfw⟩ := bcell hW1
      go_simp
      first | (go_at_call 53; with_reducible exact HD1.out _) | (go_at_call 53; with_reducible exact HD2.out _) | rfl
    simp only [Act.put, List.setIfInBounds_toArray, List.set_cons_zero, List.set_cons_succ]
    intro w3 hw3
    have hb3 := hw3.below
    clear hw3
    obtain ⟨hc3, hf3⟩ := bcell hb3
    obtain ⟨hz3_0, hz3_1, hz3_2⟩ : w.heap.size < w3.heap.size ∧ w.heap.size + 1 < w3.heap.size ∧ w2.heap.size < w3.heap.size := by have := hb3.size; (try simp at this); omega
    go_wp2_with fail
    have hB3 : Below w.heap.size w w3 := bfin (by go_grown) hb3
    refine wp_region_ext_tail 13 (by kernel_rfl) (by kernel_rfl) ?_
    simp only [List.take_succ_cons, List.take_zero, List.drop_succ_cons, List.drop_zero]
    repeat (go_big_quiet_step (fail))
    refine wpQuiet_nil ?_
    intro w4 hb4
    obtain ⟨hc4, hf4⟩ := bcell hb4
    obtain ⟨hz4_0, hz4_1, hz4_2⟩ : w.heap.size < w4.heap.size ∧ w.heap.size + 1 < w4.heap.size ∧ w2.heap.size < w4.heap.size := by have := hb4.size; (try simp at this); omega
    have hB4 : Below w.heap.size w w4 := bfin (by go_grown) hb4
    go_wp2_with fail
    refine (areSmall_any _ _ _ _ (by omega) (by omega) (by omega)).mono ?_; rintro e w5 ⟨rfl, hb5⟩
    obtain ⟨hc5, hf5⟩ := bcell hb5
    obtain ⟨hz5_0, hz5_1, hz5_2⟩ : w.heap.size < w5.heap.size ∧ w.heap.size + 1 < w5.heap.size ∧ w2.heap.size < w5.heap.size := by have := hb5.size; (try simp at this); omega
    have hB5 : Below w.heap.size w w5 := bfin (by go_grown) hb5
    go_wp2_with fail
    have hall := And.intro hc2 (And.intro hc3 (And.intro hc4 (And.intro hc5 (And.intro hz0 (And.intro hz1 (And.intro hz3_0 (And.intro hz3_1 (And.intro hz3_2 (And.intro hz4_0 (And.intro hz4_1 (And.intro hz4_2 (And.intro hz5_0 (And.intro hz5_1 (hz5_2))))))))))))))
    refine bodyPost_ret (v := .tuple #[(.agg #[.int .i64 0, .int .i64 0, .int .i64 0]), (.int .i64 3)]) (by first | (simp [results, Try.results20, go_sem]; done) | (simp [results, Try.results20, go_sem, hall] <;> rfl)) rfl ⟨rfl, by go_grown⟩
  · rw [if_pos rfl]
    go_enter Try.func20, Try.ntmps20
    go_wp2_with fail
    refine (IsMatrix_any _ _ _ _ _).mono ?_; rintro e w1 ⟨rfl, hb1⟩
    obtain ⟨hc1, hf1⟩ := bcell hb1
    obtain ⟨hz0, hz1⟩ : w.heap.size < w1.heap.size ∧ w.heap.size + 1 < w1.heap.size := by have := hb1.size; (try simp at this); omega
    go_wp2_with fail
    refine (kind_any _ _ _ _ _ hm).mono ?_; rintro e w2 ⟨rfl, hb2⟩
    replace hb2 := bstep hb1 hb2
    clear hc1 hf1 hb1
    obtain ⟨hc2, hf2⟩ := bcell hb2
    obtain ⟨hz0, hz1⟩ : w.heap.size < w2.heap.size ∧ w.heap.size + 1 < w2.heap.size := by have := hb2.size; (try simp at this); omega
    go_wp2_with fail
    have hB2 : Below w.heap.size w w2 := bfin (by go_grown) hb2
    refine wp_region_ord [(0, false), (1, false), (2, false), (3, false), (4, false), (5, false), (6, false), (7, false), (8, false)] (by kernel_rfl) (by kernel_rfl) ?_
    refine ord_q (o := ?o_10) (v := ?v_10) ?ho_10 ?hw_10 ?hq_10 ?_
    case ho_10 => simp only [List.getElem?_toArray, List.getElem?_cons_zero]; rfl
    case hw_10 => rfl
    case hq_10 =>
      intro W1 hW1
      obtain ⟨hcw, hfw⟩ := bcell hW1
      go_simp
      first | (go_at_call 53; with_reducible exact HD1.out _) | (go_at_call 53; with_reducible exact HD2.out _) | rfl
    simp only [Act.put, List.setIfInBounds_toArray, List.set_cons_zero, List.set_cons_succ]
    refine ord_q (o := ?o_11) (v := ?v_11) ?ho_11 ?hw_11 ?hq_11 ?_
    case ho_11 => simp only [List.getElem?_toArray, List.getElem?_cons_succ, List.getElem?_cons_zero]; rfl
    case hw_11 => rfl
    case hq_11 =>
      intro W1 hW1
      obtain ⟨hcw, hfw⟩ := bcell hW1
      go_simp
      first | (go_at_call 53; with_reducible exact HD1.out _) | (go_at_call 53; with_reducible exact HD2.out _) | rfl
    simp only [Act.put, List.setIfInBounds_toArray, List.set_cons_zero, List.set_cons_succ]
    refine ord_q (o := ?o_12) (v := ?v_12) ?ho_12 ?hw_12 ?hq_12 ?_
    case ho_12 => simp only [List.getElem?_toArray, List.getElem?_cons_succ, List.getElem?_cons_zero]; rfl
    case hw_12 => rfl
    case hq_12 =>
      intro W1 hW1
      obtain ⟨hcw, hfw⟩ := bcell hW1
      go_simp
      first | (go_at_call 53; with_reducible exact HD1.out _) | (go_at_call 53; with_reducible exact HD2.out _) | rfl
    simp only [Act.put, List.setIfInBounds_toArray, List.set_cons_zero, List.set_cons_succ]
    refine ord_q (o := ?o_13) (v := ?v_13) ?ho_13 ?hw_13 ?hq_13 ?_
    case ho_13 => simp only [List.getElem?_toArray, List.getElem?_cons_succ, List.getElem?_cons_zero]; rfl
    case hw_13 => rfl
    case hq_13 =>
      intro W1 hW1
      obtain ⟨hcw, hfw⟩ := bcell hW1
      go_simp
      first | (go_at_call 53; with_reducible exact HD1.out _) | (go_at_call 53; with_reducible exact HD2.out _) | rfl
    simp only [Act.put, List.setIfInBounds_toArray, List.set_cons_zero, List.set_cons_succ]
    refine ord_q (o := ?o_14) (v := ?v_14) ?ho_14 ?hw_14 ?hq_14 ?_
    case ho_14 => simp only [List.getElem?_toArray, List.getElem?_cons_succ, List.getElem?_cons_zero]; rfl
    case hw_14 => rfl
    case hq_14 =>
      intro W1 hW1
      obtain ⟨hcw, hfw⟩ := bcell hW1
      go_simp
      first | (go_at_call 53; with_reducible exact HD1.out _) | (go_at_call 53; with_reducible exact HD2.out _) | rfl
    simp only [Act.put, List.setIfInBounds_toArray, List.set_cons_zero, List.set_cons_succ]
    refine ord_q (o := ?o_15) (v := ?v_15) ?ho_15 ?hw_15 ?hq_15 ?_
    case ho_15 => simp only [List.getElem?_toArray, List.getElem?_cons_succ, List.getElem?_cons_zero]; rfl
    case hw_15 => rfl
    case hq_15 =>
      intro W1 hW1
      obtain ⟨hcw, hfw⟩ := bcell hW1
      go_simp
      first | (go_at_call 53; with_reducible exact HD1.out _) | (go_at_call 53; with_reducible exact HD2.out _) | rfl
    simp only [Act.put, List.setIfInBounds_toArray, List.set_cons_zero, List.set_cons_succ]
    refine ord_q (o := ?o_16) (v := ?v_16) ?ho_16 ?hw_16 ?hq_16 ?_
    case ho_16 => simp only [List.getElem?_toArray, List.getElem?_cons_succ, List.getElem?_cons_zero]; rfl
    case hw_16 => rfl
    case hq_16 =>
      intro W1 hW1
      obtain ⟨hcw, hfw⟩ := bcell hW1
      go_simp
      first | (go_at_call 53; with_reducible exact HD1.out _) | (go_at_call 53; with_reducible exact HD2.out _) | rfl
    simp only [Act.put, List.setIfInBounds_toArray, List.set_cons_zero, List.set_cons_succ]
    refine ord_q (o := ?o_17) (v := ?v_17) ?ho_17 ?hw_17 ?hq_17 ?_
    case ho_17 => simp only [List.getElem?_toArray, List.getElem?_cons_succ, List.getElem?_cons_zero]; rfl
    case hw_17 => rfl
    case hq_17 =>
      intro W1 hW1
      obtain ⟨hcw, hfw⟩ := bcell hW1
      go_simp
      first | (go_at_call 53; with_reducible exact HD1.out _) | (go_at_call 53; with_reducible exact HD2.out _) | rfl
    simp only [Act.put, List.setIfInBounds_toArray, List.set_cons_zero, List.set_cons_succ]
    refine ord_q (o := ?o_18) (v := ?v_18) ?ho_18 ?hw_18 ?hq_18 ?_
    case ho_18 => simp only [List.getElem?_toArray, List.getElem?_cons_succ, List.getElem?_cons_zero]; rfl
    case hw_18 => rfl
    case hq_18 =>
      intro W1 hW1
      obtain ⟨hcw, hfw⟩ := bcell hW1
      go_simp
      first | (go_at_call 53; with_reducible exact HD1.out _) | (go_at_call 53; with_reducible exact HD2.out _) | rfl
    simp only [Act.put, List.setIfInBounds_toArray, List.set_cons_zero, List.set_cons_succ]
    intro w3 hw3
    have hb3 := hw3.below
    clear hw3
    obtain ⟨hc3, hf3⟩ := bcell hb3
    obtain ⟨hz3_0, hz3_1, hz3_2⟩ : w.heap.size < w3.heap.size ∧ w.heap.size + 1 < w3.heap.size ∧ w2.heap.size < w3.heap.size := by have := hb3.size; (try simp at this); omega
    go_wp2_with fail
    have hB3 : Below w.heap.size w w3 := bfin (by go_grown) hb3
    refine wp_region_ext_tail 13 (by kernel_rfl) (by kernel_rfl) ?_
    simp only [List.take_succ_cons, List.take_zero, List.drop_succ_cons, List.drop_zero]
    repeat (go_big_quiet_step (fail))
    refine wpQuiet_nil ?_
    intro w4 hb4
    obtain ⟨hc4, hf4⟩ := bcell hb4
    obtain ⟨hz4_0, hz4_1, hz4_2⟩ : w.heap.size < w4.heap.size ∧ w.heap.size + 1 < w4.heap.size ∧ w2.heap.size < w4.heap.size := by have := hb4.size; (try simp at this); omega
    have hB4 : Below w.heap.size w w4 := bfin (by go_grown) hb4
    go_wp2_with fail
    refine (areSmall_any _ _ _ _ (by omega) (by omega) (by omega)).mono ?_; rintro e w5 ⟨rfl, hb5⟩
    obtain ⟨hc5, hf5⟩ := bcell hb5
    obtain ⟨hz5_0, hz5_1, hz5_2⟩ : w.heap.size < w5.heap.size ∧ w.heap.size + 1 < w5.heap.size ∧ w2.heap.size < w5.heap.size := by have := hb5.size; (try simp at this); omega
    have hB5 : Below w.heap.size w w5 := bfin (by go_grown) hb5
    go_wp2_with fail
    have hall := And.intro hc2 (And.intro hc3 (And.intro hc4 (And.intro hc5 (And.intro hz0 (And.intro hz1 (And.intro hz3_0 (And.intro hz3_1 (And.intro hz3_2 (And.intro hz4_0 (And.intro hz4_1 (And.intro hz4_2 (And.intro hz5_0 (And.intro hz5_1 (hz5_2))))))))))))))
    refine bodyPost_ret (v := .tuple #[(.agg #[.int .i64 (c.tdiv G), .int .i64 ((d - a).tdiv G), .int .i64 (-(b.tdiv G))]), (.int .i64 0)]) (by first | (simp [results, Try.results20, go_sem]; done) | (simp [results, Try.results20, go_sem, hall] <;> rfl)) rfl ⟨rfl, by go_grown⟩
end Go.Proofs.Ytcaiofhdcffogaa
/- Contracts: the reference's form of a matrix. -/
namespace Go.Proofs.Ytcaiofhdcffogaa
open Go.RowKit
set_option maxRecDepth 100000 in
set_option maxHeartbeats 2000000 in
theorem sFormOfMatrix_any (a b c d : Int) (w : World) :
    Calls Try.prog 21 #[(.agg #[.int .i64 a, .int .i64 b, .int .i64 c, .int .i64 d])] w fun e w' => e = .returned (.tuple #[(.agg #[.int .i64 ((formOfMat a b c d).1.x), .int .i64 ((formOfMat a b c d).1.y), .int .i64 ((formOfMat a b c d).1.z)]), (.int .i64 ((formOfMat a b c d).2))]) ∧ Below w.heap.size w w' := by
  cases hM : isMat a b c d
  · rw [show formOfMat a b c d = (⟨0, 0, 0⟩, 1) by simp [formOfMat, hM]]
    go_enter Try.func21, Try.ntmps21
    go_wp2_with fail
    refine (l01Is_any _ _ _ _ _).mono ?_; rintro e w1 ⟨rfl, hb1⟩
    obtain ⟨hc1, hf1⟩ := bcell hb1
    obtain ⟨hz0, hz1⟩ : w.heap.size < w1.heap.size ∧ w.heap.size + 1 < w1.heap.size := by have := hb1.size; (try simp at this); omega
    have hB1 : Below w.heap.size w w1 := bfin (by go_grown) hb1
    go_wp2_with fail
    have hall := And.intro hc1 (And.intro hz0 (hz1))
    refine bodyPost_ret (v := .tuple #[(.agg #[.int .i64 0, .int .i64 0, .int .i64 0]), (.int .i64 1)]) (by first | (simp [results, Try.results21, go_sem]; done) | (simp [results, Try.results21, go_sem, hall] <;> rfl)) rfl ⟨rfl, by go_grown⟩
  have hm := isMat_iff.1 hM
  rw [show formOfMat a b c d = formOfM a b c d by simp [formOfMat, hM]]
  by_cases hk : kindOf a b c d = 0
  · rw [show formOfM a b c d = (⟨0, 0, 0⟩, 5) by simp [formOfM, hk]]
    have HK := Lib.hid (l01Kind_any a b c d)
    rw [hk] at HK
    clear hk
    go_enter Try.func21, Try.ntmps21
    go_wp2_with fail
    refine (l01Is_any _ _ _ _ _).mono ?_; rintro e w1 ⟨rfl, hb1⟩
    obtain ⟨hc1, hf1⟩ := bcell hb1
    obtain ⟨hz0, hz1⟩ : w.heap.size < w1.heap.size ∧ w.heap.size + 1 < w1.heap.size := by have := hb1.size; (try simp at this); omega
    go_wp2_with fail
    refine (HK.out _ hm).mono ?_; rintro e w2 ⟨rfl, hb2⟩
    replace hb2 := bstep hb1 hb2
    clear hc1 hf1 hb1
    obtain ⟨hc2, hf2⟩ := bcell hb2
    obtain ⟨hz0, hz1⟩ : w.heap.size < w2.heap.size ∧ w.heap.size + 1 < w2.heap.size := by have := hb2.size; (try simp at this); omega
    have hB2 : Below w.heap.size w w2 := bfin (by go_grown) hb2
    go_wp2_with fail
    have hall := And.intro hc2 (And.intro hz0 (hz1))
    refine bodyPost_ret (v := .tuple #[(.agg #[.int .i64 0, .int .i64 0, .int .i64 0]), (.int .i64 5)]) (by first | (simp [results, Try.results21, go_sem]; done) | (simp [results, Try.results21, go_sem, hall] <;> rfl)) rfl ⟨rfl, by go_grown⟩
  have hn := kind_ne hk
  have g1 := @formGcd_pos a b c d hn
  have g2 := formGcd_le hm hn
  obtain ⟨a0, a1, b0, b1, c0, c1, d0, d1, _⟩ := id hm
  have t1 := @tdiv_bd c (formGcd a b c d) 2000000000 (by omega) (by omega)
  have t2 := @tdiv_bd (d - a) (formGcd a b c d) 2000000000 (by omega) (by omega)
  have t3 := @tdiv_bd b (formGcd a b c d) 2000000000 (by omega) (by omega)
  have hgb : (Int.gcd c (d - a) : Int) ≤ 2000000000 := by
    have h2 := Int.gcd_dvd_left c (d - a)
    have h3 := Int.gcd_dvd_right c (d - a)
    rcases Int.lt_trichotomy c 0 with h | h | h
    · have := Int.le_of_dvd (show 0 < -c by omega) (Int.dvd_neg.2 h2); omega
    · rw [h]; simp; omega
    · have := Int.le_of_dvd h h2; omega
  have HD1 := Lib.hid (fun W => l01Gcd_any c (d - a) W (by omega) (by omega) (by omega) (by omega))
  have HD2 := Lib.hid (fun W => l01Gcd_any (Int.gcd c (d - a) : Int) b W (by omega) (by omega) (by omega) (by omega))
  rw [show ((Int.gcd (Int.gcd c (d - a) : Int) b : Nat) : Int) = formGcd a b c d by unfold formGcd; rw [Int.gcd_neg]] at HD2
  have hfm : formOfM a b c d = if smallB (c.tdiv (formGcd a b c d)) ((d - a).tdiv (formGcd a b c d)) (-(b.tdiv (formGcd a b c d))) = true then (⟨c.tdiv (formGcd a b c d), (d - a).tdiv (formGcd a b c d), -(b.tdiv (formGcd a b c d))⟩, 0) else (⟨0, 0, 0⟩, 3) := by simp [formOfM, hk]
  rw [hfm]
  clear hfm
  have HNE := small_form (@formOf_ne a b c d hn)
  generalize formGcd a b c d = G at *
  generalize (Int.gcd c (d - a) : Int) = G1 at *
  have hk' : (kindOf a b c d == 0) = false := by simp [hk]
  obtain ⟨t10, t11⟩ := t1
  obtain ⟨t20, t21⟩ := t2
  obtain ⟨t30, t31⟩ := t3
  have hG0 : G ≠ 0 := by omega
  have hwr1 : IntKind.i64.wrap (d - a) = d - a := IntWalk.i64_in _ (by omega)
  have hwr2 : IntKind.i64.wrap (-b) = -b := IntWalk.i64_in _ (by omega)
  have hwr3 : IntKind.i64.wrap (c.tdiv G) = c.tdiv G := IntWalk.i64_in _ (by omega)
  have hwr4 : IntKind.i64.wrap ((d - a).tdiv G) = (d - a).tdiv G := IntWalk.i64_in _ (by omega)
  have hwr5 : IntKind.i64.wrap (-(b.tdiv G)) = -(b.tdiv G) := IntWalk.i64_in _ (by omega)
  clear hk hn
  rw [← HNE]
  clear HNE
  cases hs : isForm (c.tdiv G) ((d - a).tdiv G) (-(b.tdiv G))
  · rw [if_neg (by simp)]
    go_enter Try.func21, Try.ntmps21
    go_wp2_with fail
    refine (l01Is_any _ _ _ _ _).mono ?_; rintro e w1 ⟨rfl, hb1⟩
    obtain ⟨hc1, hf1⟩ := bcell hb1
    obtain ⟨hz0, hz1⟩ : w.heap.size < w1.heap.size ∧ w.heap.size + 1 < w1.heap.size := by have := hb1.size; (try simp at this); omega
    go_wp2_with fail
    refine (l01Kind_any _ _ _ _ _ hm).mono ?_; rintro e w2 ⟨rfl, hb2⟩
    replace hb2 := bstep hb1 hb2
    clear hc1 hf1 hb1
    obtain ⟨hc2, hf2⟩ := bcell hb2
    obtain ⟨hz0, hz1⟩ : w.heap.size < w2.heap.size ∧ w.heap.size + 1 < w2.heap.size := by have := hb2.size; (try simp at this); omega
    go_wp2_with fail
    have hB2 : Below w.heap.size w w2 := bfin (by go_grown) hb2
    refine wp_region_ord [(0, false), (1, false), (2, false), (3, false), (4, false), (5, false), (6, false), (7, false), (8, false), (9, false), (10, false), (11, false)] (by kernel_rfl) (by kernel_rfl) ?_
    refine ord_q (o := ?o_1) (v := ?v_1) ?ho_1 ?hw_1 ?hq_1 ?_
    case ho_1 => simp only [List.getElem?_toArray, List.getElem?_cons_zero]; rfl
    case hw_1 => rfl
    case hq_1 =>
      intro W1 hW1
      obtain ⟨hcw, hfw⟩ := bcell hW1
      go_simp
      first | (go_at_call 56; with_reducible exact HD1.out _) | (go_at_call 56; with_reducible exact HD2.out _) | rfl
    simp only [Act.put, List.setIfInBounds_toArray, List.set_cons_zero, List.set_cons_succ]
    refine ord_q (o := ?o_2) (v := ?v_2) ?ho_2 ?hw_2 ?hq_2 ?_
    case ho_2 => simp only [List.getElem?_toArray, List.getElem?_cons_succ, List.getElem?_cons_zero]; rfl
    case hw_2 => rfl
    case hq_2 =>
      intro W1 hW1
      obtain ⟨hcw, hfw⟩ := bcell hW1
      go_simp
      first | (go_at_call 56; with_reducible exact HD1.out _) | (go_at_call 56; with_reducible exact HD2.out _) | rfl
    simp only [Act.put, List.setIfInBounds_toArray, List.set_cons_zero, List.set_cons_succ]
    refine ord_q (o := ?o_3) (v := ?v_3) ?ho_3 ?hw_3 ?hq_3 ?_
    case ho_3 => simp only [List.getElem?_toArray, List.getElem?_cons_succ, List.getElem?_cons_zero]; rfl
    case hw_3 => rfl
    case hq_3 =>
      intro W1 hW1
      obtain ⟨hcw, hfw⟩ := bcell hW1
      go_simp
      first | (go_at_call 56; with_reducible exact HD1.out _) | (go_at_call 56; with_reducible exact HD2.out _) | rfl
    simp only [Act.put, List.setIfInBounds_toArray, List.set_cons_zero, List.set_cons_succ]
    refine ord_q (o := ?o_4) (v := ?v_4) ?ho_4 ?hw_4 ?hq_4 ?_
    case ho_4 => simp only [List.getElem?_toArray, List.getElem?_cons_succ, List.getElem?_cons_zero]; rfl
    case hw_4 => rfl
    case hq_4 =>
      intro W1 hW1
      obtain ⟨hcw, hfw⟩ := bcell hW1
      go_simp
      first | (go_at_call 56; with_reducible exact HD1.out _) | (go_at_call 56; with_reducible exact HD2.out _) | rfl
    simp only [Act.put, List.setIfInBounds_toArray, List.set_cons_zero, List.set_cons_succ]
    refine ord_q (o := ?o_5) (v := ?v_5) ?ho_5 ?hw_5 ?hq_5 ?_
    case ho_5 => simp only [List.getElem?_toArray, List.getElem?_cons_succ, List.getElem?_cons_zero]; rfl
    case hw_5 => rfl
    case hq_5 =>
      intro W1 hW1
      obtain ⟨hcw, hfw⟩ := bcell hW1
      go_simp
      first | (go_at_call 56; with_reducible exact HD1.out _) | (go_at_call 56; with_reducible exact HD2.out _) | rfl
    simp only [Act.put, List.setIfInBounds_toArray, List.set_cons_zero, List.set_cons_succ]
    refine ord_q (o := ?o_6) (v := ?v_6) ?ho_6 ?hw_6 ?hq_6 ?_
    case ho_6 => simp only [List.getElem?_toArray, List.getElem?_cons_succ, List.getElem?_cons_zero]; rfl
    case hw_6 => rfl
    case hq_6 =>
      intro W1 hW1
      obtain ⟨hcw, hfw⟩ := bcell hW1
      go_simp
      first | (go_at_call 56; with_reducible exact HD1.out _) | (go_at_call 56; with_reducible exact HD2.out _) | rfl
    simp only [Act.put, List.setIfInBounds_toArray, List.set_cons_zero, List.set_cons_succ]
    refine ord_q (o := ?o_7) (v := ?v_7) ?ho_7 ?hw_7 ?hq_7 ?_
    case ho_7 => simp only [List.getElem?_toArray, List.getElem?_cons_succ, List.getElem?_cons_zero]; rfl
    case hw_7 => rfl
    case hq_7 =>
      intro W1 hW1
      obtain ⟨hcw, hfw⟩ := bcell hW1
      go_simp
      first | (go_at_call 56; with_reducible exact HD1.out _) | (go_at_call 56; with_reducible exact HD2.out _) | rfl
    simp only [Act.put, List.setIfInBounds_toArray, List.set_cons_zero, List.set_cons_succ]
    refine ord_q (o := ?o_8) (v := ?v_8) ?ho_8 ?hw_8 ?hq_8 ?_
    case ho_8 => simp only [List.getElem?_toArray, List.getElem?_cons_succ, List.getElem?_cons_zero]; rfl
    case hw_8 => rfl
    case hq_8 =>
      intro W1 hW1
      obtain ⟨hcw, hfw⟩ := bcell hW1
      go_simp
      first | (go_at_call 56; with_reducible exact HD1.out _) | (go_at_call 56; with_reducible exact HD2.out _) | rfl
    simp only [Act.put, List.setIfInBounds_toArray, List.set_cons_zero, List.set_cons_succ]
    refine ord_q (o := ?o_9) (v := ?v_9) ?ho_9 ?hw_9 ?hq_9 ?_
    case ho_9 => simp only [List.getElem?_toArray, List.getElem?_cons_succ, List.getElem?_cons_zero]; rfl
    case hw_9 => rfl
    case hq_9 =>
      intro W1 hW1
      obtain ⟨hcw, hfw⟩ := bcell hW1
      go_simp
      first | (go_at_call 56; with_reducible exact HD1.out _) | (go_at_call 56; with_reducible exact HD2.out _) | rfl
    simp only [Act.put, List.setIfInBounds_toArray, List.set_cons_zero, List.set_cons_succ]
    refine ord_q (o := ?o_10) (v := ?v_10) ?ho_10 ?hw_10 ?hq_10 ?_
    case ho_10 => simp only [List.getElem?_toArray, List.getElem?_cons_succ, List.getElem?_cons_zero]; rfl
    case hw_10 => rfl
    case hq_10 =>
      intro W1 hW1
      obtain ⟨hcw, hfw⟩ := bcell hW1
      go_simp
      first | (go_at_call 56; with_reducible exact HD1.out _) | (go_at_call 56; with_reducible exact HD2.out _) | rfl
    simp only [Act.put, List.setIfInBounds_toArray, List.set_cons_zero, List.set_cons_succ]
    refine ord_q (o := ?o_11) (v := ?v_11) ?ho_11 ?hw_11 ?hq_11 ?_
    case ho_11 => simp only [List.getElem?_toArray, List.getElem?_cons_succ, List.getElem?_cons_zero]; rfl
    case hw_11 => rfl
    case hq_11 =>
      intro W1 hW1
      obtain ⟨hcw, hfw⟩ := bcell hW1
      go_simp
      first | (go_at_call 56; with_reducible exact HD1.out _) | (go_at_call 56; with_reducible exact HD2.out _) | rfl
    simp only [Act.put, List.setIfInBounds_toArray, List.set_cons_zero, List.set_cons_succ]
    refine ord_q (o := ?o_12) (v := ?v_12) ?ho_12 ?hw_12 ?hq_12 ?_
    case ho_12 => simp only [List.getElem?_toArray, List.getElem?_cons_succ, List.getElem?_cons_zero]; rfl
    case hw_12 => rfl
    case hq_12 =>
      intro W1 hW1
      obtain ⟨hcw, hfw⟩ := bcell hW1
      go_simp
      first | (go_at_call 56; with_reducible exact HD1.out _) | (go_at_call 56; with_reducible exact HD2.out _) | rfl
    simp only [Act.put, List.setIfInBounds_toArray, List.set_cons_zero, List.set_cons_succ]
    intro w3 hw3
    have hb3 := hw3.below
    clear hw3
    obtain ⟨hc3, hf3⟩ := bcell hb3
    obtain ⟨hz3_0, hz3_1⟩ : w.heap.size < w3.heap.size ∧ w.heap.size + 1 < w3.heap.size := by have := hb3.size; (try simp at this); omega
    go_wp2_with fail
    have hB3 : Below w.heap.size w w3 := bfin (by go_grown) hb3
    refine wp_region_ord [(0, false), (1, false), (2, false), (3, false), (4, false), (5, false), (6, false), (7, false), (8, false), (9, false), (10, false), (11, false), (12, false), (13, false), (14, false), (15, false), (16, false), (17, true), (18, true)] (by kernel_rfl) (by kernel_rfl) ?_
    refine ord_q (o := ?o_13) (v := ?v_13) ?ho_13 ?hw_13 ?hq_13 ?_
    case ho_13 => simp only [List.getElem?_toArray, List.getElem?_cons_zero]; rfl
    case hw_13 => rfl
    case hq_13 =>
      intro W1 hW1
      obtain ⟨hcw, hfw⟩ := bcell hW1
      go_simp
      first | rfl
    simp only [Act.put, List.setIfInBounds_toArray, List.set_cons_zero, List.set_cons_succ]
    refine ord_q (o := ?o_14) (v := ?v_14) ?ho_14 ?hw_14 ?hq_14 ?_
    case ho_14 => simp only [List.getElem?_toArray, List.getElem?_cons_succ, List.getElem?_cons_zero]; rfl
    case hw_14 => rfl
    case hq_14 =>
      intro W1 hW1
      obtain ⟨hcw, hfw⟩ := bcell hW1
      go_simp
      first | rfl
    simp only [Act.put, List.setIfInBounds_toArray, List.set_cons_zero, List.set_cons_succ]
    refine ord_q (o := ?o_15) (v := ?v_15) ?ho_15 ?hw_15 ?hq_15 ?_
    case ho_15 => simp only [List.getElem?_toArray, List.getElem?_cons_succ, List.getElem?_cons_zero]; rfl
    case hw_15 => rfl
    case hq_15 =>
      intro W1 hW1
      obtain ⟨hcw, hfw⟩ := bcell hW1
      go_simp
      first | rfl
    simp only [Act.put, List.setIfInBounds_toArray, List.set_cons_zero, List.set_cons_succ]
    refine ord_q (o := ?o_16) (v := ?v_16) ?ho_16 ?hw_16 ?hq_16 ?_
    case ho_16 => simp only [List.getElem?_toArray, List.getElem?_cons_succ, List.getElem?_cons_zero]; rfl
    case hw_16 => rfl
    case hq_16 =>
      intro W1 hW1
      obtain ⟨hcw, hfw⟩ := bcell hW1
      go_simp
      first | rfl
    simp only [Act.put, List.setIfInBounds_toArray, List.set_cons_zero, List.set_cons_succ]
    refine ord_q (o := ?o_17) (v := ?v_17) ?ho_17 ?hw_17 ?hq_17 ?_
    case ho_17 => simp only [List.getElem?_toArray, List.getElem?_cons_succ, List.getElem?_cons_zero]; rfl
    case hw_17 => rfl
    case hq_17 =>
      intro W1 hW1
      obtain ⟨hcw, hfw⟩ := bcell hW1
      go_simp
      first | rfl
    simp only [Act.put, List.setIfInBounds_toArray, List.set_cons_zero, List.set_cons_succ]
    refine ord_q (o := ?o_18) (v := ?v_18) ?ho_18 ?hw_18 ?hq_18 ?_
    case ho_18 => simp only [List.getElem?_toArray, List.getElem?_cons_succ, List.getElem?_cons_zero]; rfl
    case hw_18 => rfl
    case hq_18 =>
      intro W1 hW1
      obtain ⟨hcw, hfw⟩ := bcell hW1
      go_simp
      first | rfl
    simp only [Act.put, List.setIfInBounds_toArray, List.set_cons_zero, List.set_cons_succ]
    refine ord_q (o := ?o_19) (v := ?v_19) ?ho_19 ?hw_19 ?hq_19 ?_
    case ho_19 => simp only [List.getElem?_toArray, List.getElem?_cons_succ, List.getElem?_cons_zero]; rfl
    case hw_19 => rfl
    case hq_19 =>
      intro W1 hW1
      obtain ⟨hcw, hfw⟩ := bcell hW1
      go_simp
      first | rfl
    simp only [Act.put, List.setIfInBounds_toArray, List.set_cons_zero, List.set_cons_succ]
    refine ord_q (o := ?o_20) (v := ?v_20) ?ho_20 ?hw_20 ?hq_20 ?_
    case ho_20 => simp only [List.getElem?_toArray, List.getElem?_cons_succ, List.getElem?_cons_zero]; rfl
    case hw_20 => rfl
    case hq_20 =>
      intro W1 hW1
      obtain ⟨hcw, hfw⟩ := bcell hW1
      go_simp
      first | rfl
    simp only [Act.put, List.setIfInBounds_toArray, List.set_cons_zero, List.set_cons_succ]
    refine ord_q (o := ?o_21) (v := ?v_21) ?ho_21 ?hw_21 ?hq_21 ?_
    case ho_21 => simp only [List.getElem?_toArray, List.getElem?_cons_succ, List.getElem?_cons_zero]; rfl
    case hw_21 => rfl
    case hq_21 =>
      intro W1 hW1
      obtain ⟨hcw, hfw⟩ := bcell hW1
      go_simp
      first | rfl
    simp only [Act.put, List.setIfInBounds_toArray, List.set_cons_zero, List.set_cons_succ]
    refine ord_q (o := ?o_22) (v := ?v_22) ?ho_22 ?hw_22 ?hq_22 ?_
    case ho_22 => simp only [List.getElem?_toArray, List.getElem?_cons_succ, List.getElem?_cons_zero]; rfl
    case hw_22 => rfl
    case hq_22 =>
      intro W1 hW1
      obtain ⟨hcw, hfw⟩ := bcell hW1
      go_simp
      first | rfl
    simp only [Act.put, List.setIfInBounds_toArray, List.set_cons_zero, List.set_cons_succ]
    refine ord_q (o := ?o_23) (v := ?v_23) ?ho_23 ?hw_23 ?hq_23 ?_
    case ho_23 => simp only [List.getElem?_toArray, List.getElem?_cons_succ, List.getElem?_cons_zero]; rfl
    case hw_23 => rfl
    case hq_23 =>
      intro W1 hW1
      obtain ⟨hcw, hfw⟩ := bcell hW1
      go_simp
      first | rfl
    simp only [Act.put, List.setIfInBounds_toArray, List.set_cons_zero, List.set_cons_succ]
    refine ord_q (o := ?o_24) (v := ?v_24) ?ho_24 ?hw_24 ?hq_24 ?_
    case ho_24 => simp only [List.getElem?_toArray, List.getElem?_cons_succ, List.getElem?_cons_zero]; rfl
    case hw_24 => rfl
    case hq_24 =>
      intro W1 hW1
      obtain ⟨hcw, hfw⟩ := bcell hW1
      go_simp
      first | rfl
    simp only [Act.put, List.setIfInBounds_toArray, List.set_cons_zero, List.set_cons_succ]
    refine ord_q (o := ?o_25) (v := ?v_25) ?ho_25 ?hw_25 ?hq_25 ?_
    case ho_25 => simp only [List.getElem?_toArray, List.getElem?_cons_succ, List.getElem?_cons_zero]; rfl
    case hw_25 => rfl
    case hq_25 =>
      intro W1 hW1
      obtain ⟨hcw, hfw⟩ := bcell hW1
      go_simp
      first | rfl
    simp only [Act.put, List.setIfInBounds_toArray, List.set_cons_zero, List.set_cons_succ]
    refine ord_q (o := ?o_26) (v := ?v_26) ?ho_26 ?hw_26 ?hq_26 ?_
    case ho_26 => simp only [List.getElem?_toArray, List.getElem?_cons_succ, List.getElem?_cons_zero]; rfl
    case hw_26 => rfl
    case hq_26 =>
      intro W1 hW1
      obtain ⟨hcw, hfw⟩ := bcell hW1
      go_simp
      first | rfl
    simp only [Act.put, List.setIfInBounds_toArray, List.set_cons_zero, List.set_cons_succ]
    refine ord_q (o := ?o_27) (v := ?v_27) ?ho_27 ?hw_27 ?hq_27 ?_
    case ho_27 => simp only [List.getElem?_toArray, List.getElem?_cons_succ, List.getElem?_cons_zero]; rfl
    case hw_27 => rfl
    case hq_27 =>
      intro W1 hW1
      obtain ⟨hcw, hfw⟩ := bcell hW1
      go_simp
      first | rfl
    simp only [Act.put, List.setIfInBounds_toArray, List.set_cons_zero, List.set_cons_succ]
    refine ord_q (o := ?o_28) (v := ?v_28) ?ho_28 ?hw_28 ?hq_28 ?_
    case ho_28 => simp only [List.getElem?_toArray, List.getElem?_cons_succ, List.getElem?_cons_zero]; rfl
    case hw_28 => rfl
    case hq_28 =>
      intro W1 hW1
      obtain ⟨hcw, hfw⟩ := bcell hW1
      go_simp
      first | rfl
    simp only [Act.put, List.setIfInBounds_toArray, List.set_cons_zero, List.set_cons_succ]
    refine ord_q (o := ?o_29) (v := ?v_29) ?ho_29 ?hw_29 ?hq_29 ?_
    case ho_29 => simp only [List.getElem?_toArray, List.getElem?_cons_succ, List.getElem?_cons_zero]; rfl
    case hw_29 => rfl
    case hq_29 =>
      intro W1 hW1
      obtain ⟨hcw, hfw⟩ := bcell hW1
      go_simp
      first | rfl
    simp only [Act.put, List.setIfInBounds_toArray, List.set_cons_zero, List.set_cons_succ]
    refine ord_alloc (o := ?o_30) (z := #[.int .i64 0, .int .i64 0, .int .i64 0]) (t := 34) (Nat.le_refl _) ?ho_30 ?hw_30 ?hr_30 (fun b4_0 hb4_0 hdb4_0 => ?_)
    case ho_30 => simp only [List.getElem?_toArray, List.getElem?_cons_succ, List.getElem?_cons_zero]; rfl
    case hw_30 => rfl
    case hr_30 => intro W1; go_simp
    simp only [Act.put, List.setIfInBounds_toArray, List.set_cons_zero, List.set_cons_succ]
    refine ord_store3 (o := ?o_31) (b := b4_0) (u0 := .int .i64 0) (u1 := .int .i64 0) (u2 := .int .i64 0) (t := 34) (.int .i64 (c.tdiv G)) (.int .i64 ((d - a).tdiv G)) (.int .i64 (-(b.tdiv G))) ?ho_31 ?hw_31 hb4_0 (by simp) ?hr_31 ?_
    case ho_31 => simp only [List.getElem?_toArray, List.getElem?_cons_succ, List.getElem?_cons_zero]; rfl
    case hw_31 => rfl
    case hr_31 =>
      intro W1 hcs hfs
      obtain ⟨hs0, hs1, hs2⟩ := hcs
      have hg0 := hfs 0
      have hg1 := hfs 1
      have hg2 := hfs 2
      go_simp
    simp only [Act.put]
    intro w4 hw4
    have hb4 := hw4.below
    obtain ⟨hBb4_0, hhb4_0⟩ := hw4.blk (b4_0, #[.int .i64 (c.tdiv G), .int .i64 ((d - a).tdiv G), .int .i64 (-(b.tdiv G))], 34) (by simp [putBlk])
    have hzb4_0 := lt_of_blk hhb4_0
    have qb4_0_0 : w4.cell? ⟨b4_0, 0, none⟩ = some (.int .i64 (c.tdiv G)) := cell_of_blk hhb4_0 0
    have rb4_0_0 : w4.frozen? ⟨b4_0, 0, none⟩ = false := frozen_of_blk hhb4_0 0
    have qb4_0_1 : w4.cell? ⟨b4_0, 1, none⟩ = some (.int .i64 ((d - a).tdiv G)) := cell_of_blk hhb4_0 1
    have rb4_0_1 : w4.frozen? ⟨b4_0, 1, none⟩ = false := frozen_of_blk hhb4_0 1
    have qb4_0_2 : w4.cell? ⟨b4_0, 2, none⟩ = some (.int .i64 (-(b.tdiv G))) := cell_of_blk hhb4_0 2
    have rb4_0_2 : w4.frozen? ⟨b4_0, 2, none⟩ = false := frozen_of_blk hhb4_0 2
    clear hhb4_0
    clear hw4
    obtain ⟨hc4, hf4⟩ := bcell hb4
    obtain ⟨hz4_0, hz4_1⟩ : w.heap.size < w4.heap.size ∧ w.heap.size + 1 < w4.heap.size := by have := hb4.size; (try simp at this); omega
    have hB4 : Below w.heap.size w w4 := bfin (by go_grown) hb4
    go_wp2_with fail
    refine (l05Is_any _ _ _ _).mono ?_; rintro e w5 ⟨rfl, hb5⟩
    obtain ⟨hc5, hf5⟩ := bcell hb5
    obtain ⟨hz5_0, hz5_1, hz5_2⟩ : w.heap.size < w5.heap.size ∧ w.heap.size + 1 < w5.heap.size ∧ b4_0 < w5.heap.size := by have := hb5.size; (try simp at this); omega
    have hB5 : Below w.heap.size w w5 := bfin (by go_grown) hb5
    go_wp2_with fail
    have hall := And.intro hc2 (And.intro hc3 (And.intro hc4 (And.intro hc5 (And.intro hz0 (And.intro hz1 (And.intro hz3_0 (And.intro hz3_1 (And.intro hzb4_0 (And.intro hz4_0 (And.intro hz4_1 (And.intro hz5_0 (And.intro hz5_1 (hz5_2)))))))))))))
    refine bodyPost_ret (v := .tuple #[(.agg #[.int .i64 0, .int .i64 0, .int .i64 0]), (.int .i64 3)]) (by first | (simp [results, Try.results21, go_sem]; done) | (simp [results, Try.results21, go_sem, hall] <;> rfl)) rfl ⟨rfl, by go_grown⟩
  · rw [if_pos rfl]
    go_enter Try.func21, Try.ntmps21
    go_wp2_with fail
    refine (l01Is_any _ _ _ _ _).mono ?_; rintro e w1 ⟨rfl, hb1⟩
    obtain ⟨hc1, hf1⟩ := bcell hb1
    obtain ⟨hz0, hz1⟩ : w.heap.size < w1.heap.size ∧ w.heap.size + 1 < w1.heap.size := by have := hb1.size; (try simp at this); omega
    go_wp2_with fail
    refine (l01Kind_any _ _ _ _ _ hm).mono ?_; rintro e w2 ⟨rfl, hb2⟩
    replace hb2 := bstep hb1 hb2
    clear hc1 hf1 hb1
    obtain ⟨hc2, hf2⟩ := bcell hb2
    obtain ⟨hz0, hz1⟩ : w.heap.size < w2.heap.size ∧ w.heap.size + 1 < w2.heap.size := by have := hb2.size; (try simp at this); omega
    go_wp2_with fail
    have hB2 : Below w.heap.size w w2 := bfin (by go_grown) hb2
    refine wp_region_ord [(0, false), (1, false), (2, false), (3, false), (4, false), (5, false), (6, false), (7, false), (8, false), (9, false), (10, false), (11, false)] (by kernel_rfl) (by kernel_rfl) ?_
    refine ord_q (o := ?o_32) (v := ?v_32) ?ho_32 ?hw_32 ?hq_32 ?_
    case ho_32 => simp only [List.getElem?_toArray, List.getElem?_cons_zero]; rfl
    case hw_32 => rfl
    case hq_32 =>
      intro W1 hW1
      obtain ⟨hcw, hfw⟩ := bcell hW1
      go_simp
      first | (go_at_call 56; with_reducible exact HD1.out _) | (go_at_call 56; with_reducible exact HD2.out _) | rfl
    simp only [Act.put, List.setIfInBounds_toArray, List.set_cons_zero, List.set_cons_succ]
    refine ord_q (o := ?o_33) (v := ?v_33) ?ho_33 ?hw_33 ?hq_33 ?_
    case ho_33 => simp only [List.getElem?_toArray, List.getElem?_cons_succ, List.getElem?_cons_zero]; rfl
    case hw_33 => rfl
    case hq_33 =>
      intro W1 hW1
      obtain ⟨hcw, hfw⟩ := bcell hW1
      go_simp
      first | (go_at_call 56; with_reducible exact HD1.out _) | (go_at_call 56; with_reducible exact HD2.out _) | rfl
    simp only [Act.put, List.setIfInBounds_toArray, List.set_cons_zero, List.set_cons_succ]
    refine ord_q (o := ?o_34) (v := ?v_34) ?ho_34 ?hw_34 ?hq_34 ?_
    case ho_34 => simp only [List.getElem?_toArray, List.getElem?_cons_succ, List.getElem?_cons_zero]; rfl
    case hw_34 => rfl
    case hq_34 =>
      intro W1 hW1
      obtain ⟨hcw, hfw⟩ := bcell hW1
      go_simp
      first | (go_at_call 56; with_reducible exact HD1.out _) | (go_at_call 56; with_reducible exact HD2.out _) | rfl
    simp only [Act.put, List.setIfInBounds_toArray, List.set_cons_zero, List.set_cons_succ]
    refine ord_q (o := ?o_35) (v := ?v_35) ?ho_35 ?hw_35 ?hq_35 ?_
    case ho_35 => simp only [List.getElem?_toArray, List.getElem?_cons_succ, List.getElem?_cons_zero]; rfl
    case hw_35 => rfl
    case hq_35 =>
      intro W1 hW1
      obtain ⟨hcw, hfw⟩ := bcell hW1
      go_simp
      first | (go_at_call 56; with_reducible exact HD1.out _) | (go_at_call 56; with_reducible exact HD2.out _) | rfl
    simp only [Act.put, List.setIfInBounds_toArray, List.set_cons_zero, List.set_cons_succ]
    refine ord_q (o := ?o_36) (v := ?v_36) ?ho_36 ?hw_36 ?hq_36 ?_
    case ho_36 => simp only [List.getElem?_toArray, List.getElem?_cons_succ, List.getElem?_cons_zero]; rfl
    case hw_36 => rfl
    case hq_36 =>
      intro W1 hW1
      obtain ⟨hcw, hfw⟩ := bcell hW1
      go_simp
      first | (go_at_call 56; with_reducible exact HD1.out _) | (go_at_call 56; with_reducible exact HD2.out _) | rfl
    simp only [Act.put, List.setIfInBounds_toArray, List.set_cons_zero, List.set_cons_succ]
    refine ord_q (o := ?o_37) (v := ?v_37) ?ho_37 ?hw_37 ?hq_37 ?_
    case ho_37 => simp only [List.getElem?_toArray, List.getElem?_cons_succ, List.getElem?_cons_zero]; rfl
    case hw_37 => rfl
    case hq_37 =>
      intro W1 hW1
      obtain ⟨hcw, hfw⟩ := bcell hW1
      go_simp
      first | (go_at_call 56; with_reducible exact HD1.out _) | (go_at_call 56; with_reducible exact HD2.out _) | rfl
    simp only [Act.put, List.setIfInBounds_toArray, List.set_cons_zero, List.set_cons_succ]
    refine ord_q (o := ?o_38) (v := ?v_38) ?ho_38 ?hw_38 ?hq_38 ?_
    case ho_38 => simp only [List.getElem?_toArray, List.getElem?_cons_succ, List.getElem?_cons_zero]; rfl
    case hw_38 => rfl
    case hq_38 =>
      intro W1 hW1
      obtain ⟨hcw, hfw⟩ := bcell hW1
      go_simp
      first | (go_at_call 56; with_reducible exact HD1.out _) | (go_at_call 56; with_reducible exact HD2.out _) | rfl
    simp only [Act.put, List.setIfInBounds_toArray, List.set_cons_zero, List.set_cons_succ]
    refine ord_q (o := ?o_39) (v := ?v_39) ?ho_39 ?hw_39 ?hq_39 ?_
    case ho_39 => simp only [List.getElem?_toArray, List.getElem?_cons_succ, List.getElem?_cons_zero]; rfl
    case hw_39 => rfl
    case hq_39 =>
      intro W1 hW1
      obtain ⟨hcw, hfw⟩ := bcell hW1
      go_simp
      first | (go_at_call 56; with_reducible exact HD1.out _) | (go_at_call 56; with_reducible exact HD2.out _) | rfl
    simp only [Act.put, List.setIfInBounds_toArray, List.set_cons_zero, List.set_cons_succ]
    refine ord_q (o := ?o_40) (v := ?v_40) ?ho_40 ?hw_40 ?hq_40 ?_
    case ho_40 => simp only [List.getElem?_toArray, List.getElem?_cons_succ, List.getElem?_cons_zero]; rfl
    case hw_40 => rfl
    case hq_40 =>
      intro W1 hW1
      obtain ⟨hcw, hfw⟩ := bcell hW1
      go_simp
      first | (go_at_call 56; with_reducible exact HD1.out _) | (go_at_call 56; with_reducible exact HD2.out _) | rfl
    simp only [Act.put, List.setIfInBounds_toArray, List.set_cons_zero, List.set_cons_succ]
    refine ord_q (o := ?o_41) (v := ?v_41) ?ho_41 ?hw_41 ?hq_41 ?_
    case ho_41 => simp only [List.getElem?_toArray, List.getElem?_cons_succ, List.getElem?_cons_zero]; rfl
    case hw_41 => rfl
    case hq_41 =>
      intro W1 hW1
      obtain ⟨hcw, hfw⟩ := bcell hW1
      go_simp
      first | (go_at_call 56; with_reducible exact HD1.out _) | (go_at_call 56; with_reducible exact HD2.out _) | rfl
    simp only [Act.put, List.setIfInBounds_toArray, List.set_cons_zero, List.set_cons_succ]
    refine ord_q (o := ?o_42) (v := ?v_42) ?ho_42 ?hw_42 ?hq_42 ?_
    case ho_42 => simp only [List.getElem?_toArray, List.getElem?_cons_succ, List.getElem?_cons_zero]; rfl
    case hw_42 => rfl
    case hq_42 =>
      intro W1 hW1
      obtain ⟨hcw, hfw⟩ := bcell hW1
      go_simp
      first | (go_at_call 56; with_reducible exact HD1.out _) | (go_at_call 56; with_reducible exact HD2.out _) | rfl
    simp only [Act.put, List.setIfInBounds_toArray, List.set_cons_zero, List.set_cons_succ]
    refine ord_q (o := ?o_43) (v := ?v_43) ?ho_43 ?hw_43 ?hq_43 ?_
    case ho_43 => simp only [List.getElem?_toArray, List.getElem?_cons_succ, List.getElem?_cons_zero]; rfl
    case hw_43 => rfl
    case hq_43 =>
      intro W1 hW1
      obtain ⟨hcw, hfw⟩ := bcell hW1
      go_simp
      first | (go_at_call 56; with_reducible exact HD1.out _) | (go_at_call 56; with_reducible exact HD2.out _) | rfl
    simp only [Act.put, List.setIfInBounds_toArray, List.set_cons_zero, List.set_cons_succ]
    intro w3 hw3
    have hb3 := hw3.below
    clear hw3
    obtain ⟨hc3, hf3⟩ := bcell hb3
    obtain ⟨hz3_0, hz3_1⟩ : w.heap.size < w3.heap.size ∧ w.heap.size + 1 < w3.heap.size := by have := hb3.size; (try simp at this); omega
    go_wp2_with fail
    have hB3 : Below w.heap.size w w3 := bfin (by go_grown) hb3
    refine wp_region_ord [(0, false), (1, false), (2, false), (3, false), (4, false), (5, false), (6, false), (7, false), (8, false), (9, false), (10, false), (11, false), (12, false), (13, false), (14, false), (15, false), (16, false), (17, true), (18, true)] (by kernel_rfl) (by kernel_rfl) ?_
    refine ord_q (o := ?o_44) (v := ?v_44) ?ho_44 ?hw_44 ?hq_44 ?_
    case ho_44 => simp only [List.getElem?_toArray, List.getElem?_cons_zero]; rfl
    case hw_44 => rfl
    case hq_44 =>
      intro W1 hW1
      obtain ⟨hcw, hfw⟩ := bcell hW1
      go_simp
      first | rfl
    simp only [Act.put, List.setIfInBounds_toArray, List.set_cons_zero, List.set_cons_succ]
    refine ord_q (o := ?o_45) (v := ?v_45) ?ho_45 ?hw_45 ?hq_45 ?_
    case ho_45 => simp only [List.getElem?_toArray, List.getElem?_cons_succ, List.getElem?_cons_zero]; rfl
    case hw_45 => rfl
    case hq_45 =>
      intro W1 hW1
      obtain ⟨hcw, hfw⟩ := bcell hW1
      go_simp
      first | rfl
    simp only [Act.put, List.setIfInBounds_toArray, List.set_cons_zero, List.set_cons_succ]
    refine ord_q (o := ?o_46) (v := ?v_46) ?ho_46 ?hw_46 ?hq_46 ?_
    case ho_46 => simp only [List.getElem?_toArray, List.getElem?_cons_succ, List.getElem?_cons_zero]; rfl
    case hw_46 => rfl
    case hq_46 =>
      intro W1 hW1
      obtain ⟨hcw, hfw⟩ := bcell hW1
      go_simp
      first | rfl
    simp only [Act.put, List.setIfInBounds_toArray, List.set_cons_zero, List.set_cons_succ]
    refine ord_q (o := ?o_47) (v := ?v_47) ?ho_47 ?hw_47 ?hq_47 ?_
    case ho_47 => simp only [List.getElem?_toArray, List.getElem?_cons_succ, List.getElem?_cons_zero]; rfl
    case hw_47 => rfl
    case hq_47 =>
      intro W1 hW1
      obtain ⟨hcw, hfw⟩ := bcell hW1
      go_simp
      first | rfl
    simp only [Act.put, List.setIfInBounds_toArray, List.set_cons_zero, List.set_cons_succ]
    refine ord_q (o := ?o_48) (v := ?v_48) ?ho_48 ?hw_48 ?hq_48 ?_
    case ho_48 => simp only [List.getElem?_toArray, List.getElem?_cons_succ, List.getElem?_cons_zero]; rfl
    case hw_48 => rfl
    case hq_48 =>
      intro W1 hW1
      obtain ⟨hcw, hfw⟩ := bcell hW1
      go_simp
      first | rfl
    simp only [Act.put, List.setIfInBounds_toArray, List.set_cons_zero, List.set_cons_succ]
    refine ord_q (o := ?o_49) (v := ?v_49) ?ho_49 ?hw_49 ?hq_49 ?_
    case ho_49 => simp only [List.getElem?_toArray, List.getElem?_cons_succ, List.getElem?_cons_zero]; rfl
    case hw_49 => rfl
    case hq_49 =>
      intro W1 hW1
      obtain ⟨hcw, hfw⟩ := bcell hW1
      go_simp
      first | rfl
    simp only [Act.put, List.setIfInBounds_toArray, List.set_cons_zero, List.set_cons_succ]
    refine ord_q (o := ?o_50) (v := ?v_50) ?ho_50 ?hw_50 ?hq_50 ?_
    case ho_50 => simp only [List.getElem?_toArray, List.getElem?_cons_succ, List.getElem?_cons_zero]; rfl
    case hw_50 => rfl
    case hq_50 =>
      intro W1 hW1
      obtain ⟨hcw, hfw⟩ := bcell hW1
      go_simp
      first | rfl
    simp only [Act.put, List.setIfInBounds_toArray, List.set_cons_zero, List.set_cons_succ]
    refine ord_q (o := ?o_51) (v := ?v_51) ?ho_51 ?hw_51 ?hq_51 ?_
    case ho_51 => simp only [List.getElem?_toArray, List.getElem?_cons_succ, List.getElem?_cons_zero]; rfl
    case hw_51 => rfl
    case hq_51 =>
      intro W1 hW1
      obtain ⟨hcw, hfw⟩ := bcell hW1
      go_simp
      first | rfl
    simp only [Act.put, List.setIfInBounds_toArray, List.set_cons_zero, List.set_cons_succ]
    refine ord_q (o := ?o_52) (v := ?v_52) ?ho_52 ?hw_52 ?hq_52 ?_
    case ho_52 => simp only [List.getElem?_toArray, List.getElem?_cons_succ, List.getElem?_cons_zero]; rfl
    case hw_52 => rfl
    case hq_52 =>
      intro W1 hW1
      obtain ⟨hcw, hfw⟩ := bcell hW1
      go_simp
      first | rfl
    simp only [Act.put, List.setIfInBounds_toArray, List.set_cons_zero, List.set_cons_succ]
    refine ord_q (o := ?o_53) (v := ?v_53) ?ho_53 ?hw_53 ?hq_53 ?_
    case ho_53 => simp only [List.getElem?_toArray, List.getElem?_cons_succ, List.getElem?_cons_zero]; rfl
    case hw_53 => rfl
    case hq_53 =>
      intro W1 hW1
      obtain ⟨hcw, hfw⟩ := bcell hW1
      go_simp
      first | rfl
    simp only [Act.put, List.setIfInBounds_toArray, List.set_cons_zero, List.set_cons_succ]
    refine ord_q (o := ?o_54) (v := ?v_54) ?ho_54 ?hw_54 ?hq_54 ?_
    case ho_54 => simp only [List.getElem?_toArray, List.getElem?_cons_succ, List.getElem?_cons_zero]; rfl
    case hw_54 => rfl
    case hq_54 =>
      intro W1 hW1
      obtain ⟨hcw, hfw⟩ := bcell hW1
      go_simp
      first | rfl
    simp only [Act.put, List.setIfInBounds_toArray, List.set_cons_zero, List.set_cons_succ]
    refine ord_q (o := ?o_55) (v := ?v_55) ?ho_55 ?hw_55 ?hq_55 ?_
    case ho_55 => simp only [List.getElem?_toArray, List.getElem?_cons_succ, List.getElem?_cons_zero]; rfl
    case hw_55 => rfl
    case hq_55 =>
      intro W1 hW1
      obtain ⟨hcw, hfw⟩ := bcell hW1
      go_simp
      first | rfl
    simp only [Act.put, List.setIfInBounds_toArray, List.set_cons_zero, List.set_cons_succ]
    refine ord_q (o := ?o_56) (v := ?v_56) ?ho_56 ?hw_56 ?hq_56 ?_
    case ho_56 => simp only [List.getElem?_toArray, List.getElem?_cons_succ, List.getElem?_cons_zero]; rfl
    case hw_56 => rfl
    case hq_56 =>
      intro W1 hW1
      obtain ⟨hcw, hfw⟩ := bcell hW1
      go_simp
      first | rfl
    simp only [Act.put, List.setIfInBounds_toArray, List.set_cons_zero, List.set_cons_succ]
    refine ord_q (o := ?o_57) (v := ?v_57) ?ho_57 ?hw_57 ?hq_57 ?_
    case ho_57 => simp only [List.getElem?_toArray, List.getElem?_cons_succ, List.getElem?_cons_zero]; rfl
    case hw_57 => rfl
    case hq_57 =>
      intro W1 hW1
      obtain ⟨hcw, hfw⟩ := bcell hW1
      go_simp
      first | rfl
    simp only [Act.put, List.setIfInBounds_toArray, List.set_cons_zero, List.set_cons_succ]
    refine ord_q (o := ?o_58) (v := ?v_58) ?ho_58 ?hw_58 ?hq_58 ?_
    case ho_58 => simp only [List.getElem?_toArray, List.getElem?_cons_succ, List.getElem?_cons_zero]; rfl
    case hw_58 => rfl
    case hq_58 =>
      intro W1 hW1
      obtain ⟨hcw, hfw⟩ := bcell hW1
      go_simp
      first | rfl
    simp only [Act.put, List.setIfInBounds_toArray, List.set_cons_zero, List.set_cons_succ]
    refine ord_q (o := ?o_59) (v := ?v_59) ?ho_59 ?hw_59 ?hq_59 ?_
    case ho_59 => simp only [List.getElem?_toArray, List.getElem?_cons_succ, List.getElem?_cons_zero]; rfl
    case hw_59 => rfl
    case hq_59 =>
      intro W1 hW1
      obtain ⟨hcw, hfw⟩ := bcell hW1
      go_simp
      first | rfl
    simp only [Act.put, List.setIfInBounds_toArray, List.set_cons_zero, List.set_cons_succ]
    refine ord_q (o := ?o_60) (v := ?v_60) ?ho_60 ?hw_60 ?hq_60 ?_
    case ho_60 => simp only [List.getElem?_toArray, List.getElem?_cons_succ, List.getElem?_cons_zero]; rfl
    case hw_60 => rfl
    case hq_60 =>
      intro W1 hW1
      obtain ⟨hcw, hfw⟩ := bcell hW1
      go_simp
      first | rfl
    simp only [Act.put, List.setIfInBounds_toArray, List.set_cons_zero, List.set_cons_succ]
    refine ord_alloc (o := ?o_61) (z := #[.int .i64 0, .int .i64 0, .int .i64 0]) (t := 34) (Nat.le_refl _) ?ho_61 ?hw_61 ?hr_61 (fun b4_0 hb4_0 hdb4_0 => ?_)
    case ho_61 => simp only [List.getElem?_toArray, List.getElem?_cons_succ, List.getElem?_cons_zero]; rfl
    case hw_61 => rfl
    case hr_61 => intro W1; go_simp
    simp only [Act.put, List.setIfInBounds_toArray, List.set_cons_zero, List.set_cons_succ]
    refine ord_store3 (o := ?o_62) (b := b4_0) (u0 := .int .i64 0) (u1 := .int .i64 0) (u2 := .int .i64 0) (t := 34) (.int .i64 (c.tdiv G)) (.int .i64 ((d - a).tdiv G)) (.int .i64 (-(b.tdiv G))) ?ho_62 ?hw_62 hb4_0 (by simp) ?hr_62 ?_
    case ho_62 => simp only [List.getElem?_toArray, List.getElem?_cons_succ, List.getElem?_cons_zero]; rfl
    case hw_62 => rfl
    case hr_62 =>
      intro W1 hcs hfs
      obtain ⟨hs0, hs1, hs2⟩ := hcs
      have hg0 := hfs 0
      have hg1 := hfs 1
      have hg2 := hfs 2
      go_simp
    simp only [Act.put]
    intro w4 hw4
    have hb4 := hw4.below
    obtain ⟨hBb4_0, hhb4_0⟩ := hw4.blk (b4_0, #[.int .i64 (c.tdiv G), .int .i64 ((d - a).tdiv G), .int .i64 (-(b.tdiv G))], 34) (by simp [putBlk])
    have hzb4_0 := lt_of_blk hhb4_0
    have qb4_0_0 : w4.cell? ⟨b4_0, 0, none⟩ = some (.int .i64 (c.tdiv G)) := cell_of_blk hhb4_0 0
    have rb4_0_0 : w4.frozen? ⟨b4_0, 0, none⟩ = false := frozen_of_blk hhb4_0 0
    have qb4_0_1 : w4.cell? ⟨b4_0, 1, none⟩ = some (.int .i64 ((d - a).tdiv G)) := cell_of_blk hhb4_0 1
    have rb4_0_1 : w4.frozen? ⟨b4_0, 1, none⟩ = false := frozen_of_blk hhb4_0 1
    have qb4_0_2 : w4.cell? ⟨b4_0, 2, none⟩ = some (.int .i64 (-(b.tdiv G))) := cell_of_blk hhb4_0 2
    have rb4_0_2 : w4.frozen? ⟨b4_0, 2, none⟩ = false := frozen_of_blk hhb4_0 2
    clear hhb4_0
    clear hw4
    obtain ⟨hc4, hf4⟩ := bcell hb4
    obtain ⟨hz4_0, hz4_1⟩ : w.heap.size < w4.heap.size ∧ w.heap.size + 1 < w4.heap.size := by have := hb4.size; (try simp at this); omega
    have hB4 : Below w.heap.size w w4 := bfin (by go_grown) hb4
    go_wp2_with fail
    refine (l05Is_any _ _ _ _).mono ?_; rintro e w5 ⟨rfl, hb5⟩
    obtain ⟨hc5, hf5⟩ := bcell hb5
    obtain ⟨hz5_0, hz5_1, hz5_2⟩ : w.heap.size < w5.heap.size ∧ w.heap.size + 1 < w5.heap.size ∧ b4_0 < w5.heap.size := by have := hb5.size; (try simp at this); omega
    have hB5 : Below w.heap.size w w5 := bfin (by go_grown) hb5
    go_wp2_with fail
    have hall := And.intro hc2 (And.intro hc3 (And.intro hc4 (And.intro hc5 (And.intro hz0 (And.intro hz1 (And.intro hz3_0 (And.intro hz3_1 (And.intro hzb4_0 (And.intro hz4_0 (And.intro hz4_1 (And.intro hz5_0 (And.intro hz5_1 (hz5_2)))))))))))))
    refine bodyPost_ret (v := .tuple #[(.agg #[.int .i64 (c.tdiv G), .int .i64 ((d - a).tdiv G), .int .i64 (-(b.tdiv G))]), (.int .i64 0)]) (by first | (simp [results, Try.results21, go_sem]; done) | (simp [results, Try.results21, go_sem, hall] <;> rfl)) rfl ⟨rfl, by go_grown⟩
end Go.Proofs.Ytcaiofhdcffogaa
