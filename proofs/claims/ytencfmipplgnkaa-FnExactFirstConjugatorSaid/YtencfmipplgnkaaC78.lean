/- The law FirstConjugator (written by gen_c76.py). -/
import Derived.Test.YtencfmipplgnkaaC77
namespace Go.Proofs.Ytencfmipplgnkaa
open Go.RowKit
set_option maxRecDepth 100000 in
set_option maxHeartbeats 4000000 in
theorem lawFnExactFirstConjugator (a b c d a' b' c' d' k : Int) (_ : I64 a) (_ : I64 b) (_ : I64 c) (_ : I64 d) (_ : I64 a') (_ : I64 b') (_ : I64 c') (_ : I64 d') (_ : I64 k) (w : World) :
    Calls Try.prog 7 #[(.agg #[.int .i64 a, .int .i64 b, .int .i64 c, .int .i64 d]), (.agg #[.int .i64 a', .int .i64 b', .int .i64 c', .int .i64 d']), (.int .i64 k)] w fun e w' => e = .returned (.bool true) ∧ Below w.heap.size w w' := by
  have HI := Lib.hid (FirstConjugator_any a b c d a' b' c' d' k)
  have HS := Lib.hid (sFirstConjugator_any a b c d a' b' c' d' k)
  generalize fcR ⟨a, b, c, d⟩ ⟨a', b', c', d'⟩ k = G at HI HS
  obtain ⟨⟨p, q, r, s⟩, R2⟩ := G
  have hn2 : (R2 != R2) = false := by simp
  go_enter Try.func7, Try.ntmps7
  go_wp2_with fail
  refine wp_region_ord [(0, false), (1, false), (2, false), (3, false), (4, false), (5, false), (6, false), (7, false), (8, false), (9, true), (10, true), (11, false)] (by kernel_rfl) (by kernel_rfl) ?_
  refine ord_q (o := ?o_1) (v := ?v_1) ?ho_1 ?hw_1 ?hq_1 ?_
  case ho_1 => simp only [List.getElem?_toArray, List.getElem?_cons_zero]; rfl
  case hw_1 => rfl
  case hq_1 =>
    intro W1 hW1
    obtain ⟨hcw, hfw⟩ := bcell hW1
    go_simp
    first | (go_at_call 24; exact toMatrix_any _ _ _ _ _) | (go_at_call 28; exact HS.out _) | rfl
  simp only [Act.put, List.setIfInBounds_toArray, List.set_cons_zero, List.set_cons_succ]
  refine ord_q (o := ?o_2) (v := ?v_2) ?ho_2 ?hw_2 ?hq_2 ?_
  case ho_2 => simp only [List.getElem?_toArray, List.getElem?_cons_succ, List.getElem?_cons_zero]; rfl
  case hw_2 => rfl
  case hq_2 =>
    intro W1 hW1
    obtain ⟨hcw, hfw⟩ := bcell hW1
    go_simp
    first | (go_at_call 24; exact toMatrix_any _ _ _ _ _) | (go_at_call 28; exact HS.out _) | rfl
  simp only [Act.put, List.setIfInBounds_toArray, List.set_cons_zero, List.set_cons_succ]
  refine ord_q (o := ?o_3) (v := ?v_3) ?ho_3 ?hw_3 ?hq_3 ?_
  case ho_3 => simp only [List.getElem?_toArray, List.getElem?_cons_succ, List.getElem?_cons_zero]; rfl
  case hw_3 => rfl
  case hq_3 =>
    intro W1 hW1
    obtain ⟨hcw, hfw⟩ := bcell hW1
    go_simp
    first | (go_at_call 24; exact toMatrix_any _ _ _ _ _) | (go_at_call 28; exact HS.out _) | rfl
  simp only [Act.put, List.setIfInBounds_toArray, List.set_cons_zero, List.set_cons_succ]
  refine ord_q (o := ?o_4) (v := ?v_4) ?ho_4 ?hw_4 ?hq_4 ?_
  case ho_4 => simp only [List.getElem?_toArray, List.getElem?_cons_succ, List.getElem?_cons_zero]; rfl
  case hw_4 => rfl
  case hq_4 =>
    intro W1 hW1
    obtain ⟨hcw, hfw⟩ := bcell hW1
    go_simp
    first | (go_at_call 24; exact toMatrix_any _ _ _ _ _) | (go_at_call 28; exact HS.out _) | rfl
  simp only [Act.put, List.setIfInBounds_toArray, List.set_cons_zero, List.set_cons_succ]
  refine ord_q (o := ?o_5) (v := ?v_5) ?ho_5 ?hw_5 ?hq_5 ?_
  case ho_5 => simp only [List.getElem?_toArray, List.getElem?_cons_succ, List.getElem?_cons_zero]; rfl
  case hw_5 => rfl
  case hq_5 =>
    intro W1 hW1
    obtain ⟨hcw, hfw⟩ := bcell hW1
    go_simp
    first | (go_at_call 24; exact toMatrix_any _ _ _ _ _) | (go_at_call 28; exact HS.out _) | rfl
  simp only [Act.put, List.setIfInBounds_toArray, List.set_cons_zero, List.set_cons_succ]
  refine ord_q (o := ?o_6) (v := ?v_6) ?ho_6 ?hw_6 ?hq_6 ?_
  case ho_6 => simp only [List.getElem?_toArray, List.getElem?_cons_succ, List.getElem?_cons_zero]; rfl
  case hw_6 => rfl
  case hq_6 =>
    intro W1 hW1
    obtain ⟨hcw, hfw⟩ := bcell hW1
    go_simp
    first | (go_at_call 24; exact toMatrix_any _ _ _ _ _) | (go_at_call 28; exact HS.out _) | rfl
  simp only [Act.put, List.setIfInBounds_toArray, List.set_cons_zero, List.set_cons_succ]
  refine ord_q (o := ?o_7) (v := ?v_7) ?ho_7 ?hw_7 ?hq_7 ?_
  case ho_7 => simp only [List.getElem?_toArray, List.getElem?_cons_succ, List.getElem?_cons_zero]; rfl
  case hw_7 => rfl
  case hq_7 =>
    intro W1 hW1
    obtain ⟨hcw, hfw⟩ := bcell hW1
    go_simp
    first | (go_at_call 24; exact toMatrix_any _ _ _ _ _) | (go_at_call 28; exact HS.out _) | rfl
  simp only [Act.put, List.setIfInBounds_toArray, List.set_cons_zero, List.set_cons_succ]
  refine ord_q (o := ?o_8) (v := ?v_8) ?ho_8 ?hw_8 ?hq_8 ?_
  case ho_8 => simp only [List.getElem?_toArray, List.getElem?_cons_succ, List.getElem?_cons_zero]; rfl
  case hw_8 => rfl
  case hq_8 =>
    intro W1 hW1
    obtain ⟨hcw, hfw⟩ := bcell hW1
    go_simp
    first | (go_at_call 24; exact toMatrix_any _ _ _ _ _) | (go_at_call 28; exact HS.out _) | rfl
  simp only [Act.put, List.setIfInBounds_toArray, List.set_cons_zero, List.set_cons_succ]
  refine ord_q (o := ?o_9) (v := ?v_9) ?ho_9 ?hw_9 ?hq_9 ?_
  case ho_9 => simp only [List.getElem?_toArray, List.getElem?_cons_succ, List.getElem?_cons_zero]; rfl
  case hw_9 => rfl
  case hq_9 =>
    intro W1 hW1
    obtain ⟨hcw, hfw⟩ := bcell hW1
    go_simp
    first | (go_at_call 24; exact toMatrix_any _ _ _ _ _) | (go_at_call 28; exact HS.out _) | rfl
  simp only [Act.put, List.setIfInBounds_toArray, List.set_cons_zero, List.set_cons_succ]
  refine ord_alloc (o := ?o_10) (z := #[.int .i64 0, .int .i64 0, .int .i64 0, .int .i64 0]) (t := 40) (Nat.le_refl _) ?ho_10 ?hw_10 ?hr_10 (fun b1_0 hb1_0 hdb1_0 => ?_)
  case ho_10 => simp only [List.getElem?_toArray, List.getElem?_cons_succ, List.getElem?_cons_zero]; rfl
  case hw_10 => rfl
  case hr_10 => intro W1; go_simp
  simp only [Act.put, List.setIfInBounds_toArray, List.set_cons_zero, List.set_cons_succ]
  refine ord_store4 (o := ?o_11) (b := b1_0) (u0 := .int .i64 0) (u1 := .int .i64 0) (u2 := .int .i64 0) (u3 := .int .i64 0) (t := 40) (.int .i64 (p)) (.int .i64 (q)) (.int .i64 (r)) (.int .i64 (s)) ?ho_11 ?hw_11 hb1_0 (by simp) ?hr_11 ?_
  case ho_11 => simp only [List.getElem?_toArray, List.getElem?_cons_succ, List.getElem?_cons_zero]; rfl
  case hw_11 => rfl
  case hr_11 =>
    intro W1 hcs hfs
    obtain ⟨hs0, hs1, hs2, hs3⟩ := hcs
    have hg0 := hfs 0
    have hg1 := hfs 1
    have hg2 := hfs 2
    have hg3 := hfs 3
    go_simp
  simp only [Act.put]
  refine ord_q (o := ?o_12) (v := ?v_12) ?ho_12 ?hw_12 ?hq_12 ?_
  case ho_12 => simp only [List.getElem?_toArray, List.getElem?_cons_succ, List.getElem?_cons_zero]; rfl
  case hw_12 => rfl
  case hq_12 =>
    intro W1 hW1
    obtain ⟨hcw, hfw⟩ := bcell hW1
    go_simp
    first | (go_at_call 24; exact toMatrix_any _ _ _ _ _) | (go_at_call 28; exact HS.out _) | rfl
  simp only [Act.put, List.setIfInBounds_toArray, List.set_cons_zero, List.set_cons_succ]
  intro w1 hw1
  have hb1 := hw1.below
  obtain ⟨hBb1_0, hhb1_0⟩ := hw1.blk (b1_0, #[.int .i64 (p), .int .i64 (q), .int .i64 (r), .int .i64 (s)], 40) (by simp [putBlk])
  have hzb1_0 := lt_of_blk hhb1_0
  have qb1_0_0 : w1.cell? ⟨b1_0, 0, none⟩ = some (.int .i64 (p)) := cell_of_blk hhb1_0 0
  have rb1_0_0 : w1.frozen? ⟨b1_0, 0, none⟩ = false := frozen_of_blk hhb1_0 0
  have qb1_0_1 : w1.cell? ⟨b1_0, 1, none⟩ = some (.int .i64 (q)) := cell_of_blk hhb1_0 1
  have rb1_0_1 : w1.frozen? ⟨b1_0, 1, none⟩ = false := frozen_of_blk hhb1_0 1
  have qb1_0_2 : w1.cell? ⟨b1_0, 2, none⟩ = some (.int .i64 (r)) := cell_of_blk hhb1_0 2
  have rb1_0_2 : w1.frozen? ⟨b1_0, 2, none⟩ = false := frozen_of_blk hhb1_0 2
  have qb1_0_3 : w1.cell? ⟨b1_0, 3, none⟩ = some (.int .i64 (s)) := cell_of_blk hhb1_0 3
  have rb1_0_3 : w1.frozen? ⟨b1_0, 3, none⟩ = false := frozen_of_blk hhb1_0 3
  clear hhb1_0
  clear hw1
  obtain ⟨hc1, hf1⟩ := bcell hb1
  obtain ⟨hz1_0, hz1_1⟩ : w.heap.size < w1.heap.size ∧ w.heap.size + 1 < w1.heap.size := by have := hb1.size; (try simp at this); omega
  go_wp2_with fail
  have hB1 : Below w.heap.size w w1 := bfin (by go_grown) hb1
  refine wp_region_ord [(0, false), (1, false), (2, false), (3, false), (4, false), (5, false), (6, false), (7, false), (8, false), (9, true), (10, true), (11, false)] (by kernel_rfl) (by kernel_rfl) ?_
  refine ord_q (o := ?o_13) (v := ?v_13) ?ho_13 ?hw_13 ?hq_13 ?_
  case ho_13 => simp only [List.getElem?_toArray, List.getElem?_cons_zero]; rfl
  case hw_13 => rfl
  case hq_13 =>
    intro W1 hW1
    obtain ⟨hcw, hfw⟩ := bcell hW1
    go_simp
    first | (go_at_call 24; exact toMatrix_any _ _ _ _ _) | (go_at_call 29; exact HI.out _) | rfl
  simp only [Act.put, List.setIfInBounds_toArray, List.set_cons_zero, List.set_cons_succ]
  refine ord_q (o := ?o_14) (v := ?v_14) ?ho_14 ?hw_14 ?hq_14 ?_
  case ho_14 => simp only [List.getElem?_toArray, List.getElem?_cons_succ, List.getElem?_cons_zero]; rfl
  case hw_14 => rfl
  case hq_14 =>
    intro W1 hW1
    obtain ⟨hcw, hfw⟩ := bcell hW1
    go_simp
    first | (go_at_call 24; exact toMatrix_any _ _ _ _ _) | (go_at_call 29; exact HI.out _) | rfl
  simp only [Act.put, List.setIfInBounds_toArray, List.set_cons_zero, List.set_cons_succ]
  refine ord_q (o := ?o_15) (v := ?v_15) ?ho_15 ?hw_15 ?hq_15 ?_
  case ho_15 => simp only [List.getElem?_toArray, List.getElem?_cons_succ, List.getElem?_cons_zero]; rfl
  case hw_15 => rfl
  case hq_15 =>
    intro W1 hW1
    obtain ⟨hcw, hfw⟩ := bcell hW1
    go_simp
    first | (go_at_call 24; exact toMatrix_any _ _ _ _ _) | (go_at_call 29; exact HI.out _) | rfl
  simp only [Act.put, List.setIfInBounds_toArray, List.set_cons_zero, List.set_cons_succ]
  refine ord_q (o := ?o_16) (v := ?v_16) ?ho_16 ?hw_16 ?hq_16 ?_
  case ho_16 => simp only [List.getElem?_toArray, List.getElem?_cons_succ, List.getElem?_cons_zero]; rfl
  case hw_16 => rfl
  case hq_16 =>
    intro W1 hW1
    obtain ⟨hcw, hfw⟩ := bcell hW1
    go_simp
    first | (go_at_call 24; exact toMatrix_any _ _ _ _ _) | (go_at_call 29; exact HI.out _) | rfl
  simp only [Act.put, List.setIfInBounds_toArray, List.set_cons_zero, List.set_cons_succ]
  refine ord_q (o := ?o_17) (v := ?v_17) ?ho_17 ?hw_17 ?hq_17 ?_
  case ho_17 => simp only [List.getElem?_toArray, List.getElem?_cons_succ, List.getElem?_cons_zero]; rfl
  case hw_17 => rfl
  case hq_17 =>
    intro W1 hW1
    obtain ⟨hcw, hfw⟩ := bcell hW1
    go_simp
    first | (go_at_call 24; exact toMatrix_any _ _ _ _ _) | (go_at_call 29; exact HI.out _) | rfl
  simp only [Act.put, List.setIfInBounds_toArray, List.set_cons_zero, List.set_cons_succ]
  refine ord_q (o := ?o_18) (v := ?v_18) ?ho_18 ?hw_18 ?hq_18 ?_
  case ho_18 => simp only [List.getElem?_toArray, List.getElem?_cons_succ, List.getElem?_cons_zero]; rfl
  case hw_18 => rfl
  case hq_18 =>
    intro W1 hW1
    obtain ⟨hcw, hfw⟩ := bcell hW1
    go_simp
    first | (go_at_call 24; exact toMatrix_any _ _ _ _ _) | (go_at_call 29; exact HI.out _) | rfl
  simp only [Act.put, List.setIfInBounds_toArray, List.set_cons_zero, List.set_cons_succ]
  refine ord_q (o := ?o_19) (v := ?v_19) ?ho_19 ?hw_19 ?hq_19 ?_
  case ho_19 => simp only [List.getElem?_toArray, List.getElem?_cons_succ, List.getElem?_cons_zero]; rfl
  case hw_19 => rfl
  case hq_19 =>
    intro W1 hW1
    obtain ⟨hcw, hfw⟩ := bcell hW1
    go_simp
    first | (go_at_call 24; exact toMatrix_any _ _ _ _ _) | (go_at_call 29; exact HI.out _) | rfl
  simp only [Act.put, List.setIfInBounds_toArray, List.set_cons_zero, List.set_cons_succ]
  refine ord_q (o := ?o_20) (v := ?v_20) ?ho_20 ?hw_20 ?hq_20 ?_
  case ho_20 => simp only [List.getElem?_toArray, List.getElem?_cons_succ, List.getElem?_cons_zero]; rfl
  case hw_20 => rfl
  case hq_20 =>
    intro W1 hW1
    obtain ⟨hcw, hfw⟩ := bcell hW1
    go_simp
    first | (go_at_call 24; exact toMatrix_any _ _ _ _ _) | (go_at_call 29; exact HI.out _) | rfl
  simp only [Act.put, List.setIfInBounds_toArray, List.set_cons_zero, List.set_cons_succ]
  refine ord_q (o := ?o_21) (v := ?v_21) ?ho_21 ?hw_21 ?hq_21 ?_
  case ho_21 => simp only [List.getElem?_toArray, List.getElem?_cons_succ, List.getElem?_cons_zero]; rfl
  case hw_21 => rfl
  case hq_21 =>
    intro W1 hW1
    obtain ⟨hcw, hfw⟩ := bcell hW1
    go_simp
    first | (go_at_call 24; exact toMatrix_any _ _ _ _ _) | (go_at_call 29; exact HI.out _) | rfl
  simp only [Act.put, List.setIfInBounds_toArray, List.set_cons_zero, List.set_cons_succ]
  refine ord_alloc (o := ?o_22) (z := #[.int .i64 0, .int .i64 0, .int .i64 0, .int .i64 0]) (t := 40) (Nat.le_refl _) ?ho_22 ?hw_22 ?hr_22 (fun b2_0 hb2_0 hdb2_0 => ?_)
  case ho_22 => simp only [List.getElem?_toArray, List.getElem?_cons_succ, List.getElem?_cons_zero]; rfl
  case hw_22 => rfl
  case hr_22 => intro W1; go_simp
  simp only [Act.put, List.setIfInBounds_toArray, List.set_cons_zero, List.set_cons_succ]
  refine ord_store4 (o := ?o_23) (b := b2_0) (u0 := .int .i64 0) (u1 := .int .i64 0) (u2 := .int .i64 0) (u3 := .int .i64 0) (t := 40) (.int .i64 (p)) (.int .i64 (q)) (.int .i64 (r)) (.int .i64 (s)) ?ho_23 ?hw_23 hb2_0 (by simp) ?hr_23 ?_
  case ho_23 => simp only [List.getElem?_toArray, List.getElem?_cons_succ, List.getElem?_cons_zero]; rfl
  case hw_23 => rfl
  case hr_23 =>
    intro W1 hcs hfs
    obtain ⟨hs0, hs1, hs2, hs3⟩ := hcs
    have hg0 := hfs 0
    have hg1 := hfs 1
    have hg2 := hfs 2
    have hg3 := hfs 3
    go_simp
  simp only [Act.put]
  refine ord_q (o := ?o_24) (v := ?v_24) ?ho_24 ?hw_24 ?hq_24 ?_
  case ho_24 => simp only [List.getElem?_toArray, List.getElem?_cons_succ, List.getElem?_cons_zero]; rfl
  case hw_24 => rfl
  case hq_24 =>
    intro W1 hW1
    obtain ⟨hcw, hfw⟩ := bcell hW1
    go_simp
    first | (go_at_call 24; exact toMatrix_any _ _ _ _ _) | (go_at_call 29; exact HI.out _) | rfl
  simp only [Act.put, List.setIfInBounds_toArray, List.set_cons_zero, List.set_cons_succ]
  intro w2 hw2
  have hb2 := hw2.below
  obtain ⟨hBb2_0, hhb2_0⟩ := hw2.blk (b2_0, #[.int .i64 (p), .int .i64 (q), .int .i64 (r), .int .i64 (s)], 40) (by simp [putBlk])
  have hzb2_0 := lt_of_blk hhb2_0
  have qb2_0_0 : w2.cell? ⟨b2_0, 0, none⟩ = some (.int .i64 (p)) := cell_of_blk hhb2_0 0
  have rb2_0_0 : w2.frozen? ⟨b2_0, 0, none⟩ = false := frozen_of_blk hhb2_0 0
  have qb2_0_1 : w2.cell? ⟨b2_0, 1, none⟩ = some (.int .i64 (q)) := cell_of_blk hhb2_0 1
  have rb2_0_1 : w2.frozen? ⟨b2_0, 1, none⟩ = false := frozen_of_blk hhb2_0 1
  have qb2_0_2 : w2.cell? ⟨b2_0, 2, none⟩ = some (.int .i64 (r)) := cell_of_blk hhb2_0 2
  have rb2_0_2 : w2.frozen? ⟨b2_0, 2, none⟩ = false := frozen_of_blk hhb2_0 2
  have qb2_0_3 : w2.cell? ⟨b2_0, 3, none⟩ = some (.int .i64 (s)) := cell_of_blk hhb2_0 3
  have rb2_0_3 : w2.frozen? ⟨b2_0, 3, none⟩ = false := frozen_of_blk hhb2_0 3
  clear hhb2_0
  clear hw2
  obtain ⟨hc2, hf2⟩ := bcell hb2
  obtain ⟨hz2_0, hz2_1, hz2_2⟩ : w.heap.size < w2.heap.size ∧ w.heap.size + 1 < w2.heap.size ∧ b1_0 < w2.heap.size := by have := hb2.size; (try simp at this); omega
  have hB2 : Below w.heap.size w w2 := bfin (by go_grown) hb2
  go_wp2_with fail
  refine (eqMatrix_same _ _ _ _ _).mono ?_; rintro e w3 ⟨rfl, hb3⟩
  obtain ⟨hc3, hf3⟩ := bcell hb3
  have hB3 : Below w.heap.size w w3 := bfin (by go_grown) hb3
  go_wp2_with fail
  go_ret
  exact ⟨rfl, by go_grown⟩
end Go.Proofs.Ytencfmipplgnkaa
