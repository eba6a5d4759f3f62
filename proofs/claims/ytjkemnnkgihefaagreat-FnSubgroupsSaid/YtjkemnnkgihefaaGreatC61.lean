/- Contracts: the normal pair, the program's own. -/
import Derived.Test.YtjkemnnkgihefaaGreatC60
namespace Go.Proofs.YtjkemnnkgihefaaGreat
open Go.RowKit
set_option maxRecDepth 100000 in
set_option maxHeartbeats 4000000 in
theorem normal_any (N : Nat) (c d : Int) (w : World) (n0 : 0 < N) (n1 : N ≤ 1000) (hc : 0 ≤ c ∧ c < N) (hd : 0 ≤ d ∧ d < N) :
    Calls Tryz.prog 49 #[(.int .i64 ((N : Int))), (.agg #[.int .i64 c, .int .i64 d])] w fun e w' => e = .returned (.agg #[.int .i64 ((normal N c d).x), .int .i64 ((normal N c d).y)]) ∧ Below w.heap.size w w' := by
  have HBd := Lib.hid (fun k => nrm_bd (n := (N : Int)) (by omega) hc hd k)
  obtain ⟨c0, c1⟩ := hc
  obtain ⟨d0, d1⟩ := hd
  have E := Lib.hid (show normal N c d = nrm N c d (N - 1) by unfold normal; rw [show ((N : Int) - 1).toNat = N - 1 by omega])
  rw [E.out]
  clear E
  go_enter Tryz.func49, Tryz.ntmps49
  go_wp2_with fail
  go_loopw [6] (fun u wr => ∃ k : Nat, ∃ a b : Int, u = (.int .i64 ((k : Int) + 1)) ∧ k + 1 ≤ N ∧ Hid ((nrm N c d k).x = a ∧ (nrm N c d k).y = b ∧ Blk2 wr w.heap.size 64 c d ∧ Blk2 wr (w.heap.size + 1) 64 0 0 ∧ Blk2 wr (w.heap.size + 1 + 1) 64 a b) ∧ Below w.heap.size w wr) (fun u _ => N - (intOf u).toNat)
  case atStart => exact ⟨0, c, d, by go_num, by omega, Lib.hid ⟨rfl, rfl, heap_alloc (heap_alloc heap_new), heap_alloc (heap_new' (by simp)), heap_new' (by simp)⟩, by go_grown⟩
  case round =>
    obtain ⟨k, a, b, rfl, hk, HN, hb⟩ := hrel
    obtain ⟨⟨x0, x1⟩, ⟨fx0, fx1⟩, lx⟩ := HN.out.2.2.1.open_
    obtain ⟨⟨z0, z1⟩, ⟨fz0, fz1⟩, lz⟩ := HN.out.2.2.2.1.open_
    obtain ⟨⟨y0, y1⟩, ⟨fy0, fy1⟩, ly⟩ := HN.out.2.2.2.2.open_
    have hsz := hb.size
    by_cases hlt : k + 1 < N
    · have HG := Lib.hid (fun W => divisor_any ((k : Int) + 1) N W (by omega) (by omega) (by omega) (by omega))
      have hnn : (N : Int) ≠ 0 := by omega
      by_cases hg : (Int.gcd ((k : Int) + 1) N : Int) = 1
      · have HG1 := HG.out
        rw [hg] at HG1
        have HG := Lib.hid HG1
        clear HG1
        obtain ⟨mw1, mt1, ml1, mh1⟩ := mulMod (k := (k : Int) + 1) (c := c) (n := (N : Int)) (by omega) (by omega) c0 (by omega) (by omega)
        obtain ⟨mw2, mt2, ml2, mh2⟩ := mulMod (k := (k : Int) + 1) (c := d) (n := (N : Int)) (by omega) (by omega) d0 (by omega) (by omega)
        have HY := Lib.hid (@nrm_yes N c d k hg)
        have HNo := Lib.hid (@nrm_no N c d k)
        rw [HN.out.1, HN.out.2.1] at HY HNo
        clear hg
        generalize ((k : Int) + 1) * c % (N : Int) = A at *
        generalize ((k : Int) + 1) * d % (N : Int) = B at *
        cases hx : lexB A B a b
        · skip
          have HV := Lib.hid (HNo.out hx)
          have HC : ¬ cmpP A B a b < 0 := by rw [cmpP_lt, hx]; simp
          have HCmp := Lib.hid (fun b1 b2 W h0 h1 h2 h3 => compare2_any b1 b2 2 2 A B a b W h0 h1 h2 h3)
          have hnz : N ≠ 0 := by omega
          generalize cmpP A B a b = cp at *
          clear hx
          go_wp2_with fail
          refine (HG.out _).mono ?_; rintro e w3 ⟨rfl, hb3⟩
          obtain ⟨hc3, hf3⟩ := bcell hb3
          go_wp2_with fail
          obtain ⟨hz3_0, hz3_1, hz3_2⟩ : w.heap.size < w3.heap.size ∧ w.heap.size + 1 < w3.heap.size ∧ w.heap.size + 1 + 1 < w3.heap.size := by have := hb3.size; (try simp at this); omega
          have hB3 : Below w.heap.size w w3 := bfin (by go_grown) hb3
          refine wp_region_ord [(0, false), (1, false), (2, false), (3, false), (4, false), (5, false), (6, false), (7, false), (8, false), (9, false), (10, false), (11, false), (12, false), (13, true), (14, true)] (by kernel_rfl) (by kernel_rfl) ?_
          refine ord_q (o := ?o_1) (v := ?v_1) ?ho_1 ?hw_1 ?hq_1 ?_
          case ho_1 => simp only [List.getElem?_toArray, List.getElem?_cons_zero]; rfl
          case hw_1 => rfl
          case hq_1 =>
            intro W1 hW1
            obtain ⟨hcw, hfw⟩ := bcell hW1
            go_simp
            first | rfl
          simp only [Act.put, List.setIfInBounds_toArray, List.set_cons_zero, List.set_cons_succ]
          refine ord_q (o := ?o_2) (v := ?v_2) ?ho_2 ?hw_2 ?hq_2 ?_
          case ho_2 => simp only [List.getElem?_toArray, List.getElem?_cons_succ, List.getElem?_cons_zero]; rfl
          case hw_2 => rfl
          case hq_2 =>
            intro W1 hW1
            obtain ⟨hcw, hfw⟩ := bcell hW1
            go_simp
            first | rfl
          simp only [Act.put, List.setIfInBounds_toArray, List.set_cons_zero, List.set_cons_succ]
          refine ord_q (o := ?o_3) (v := ?v_3) ?ho_3 ?hw_3 ?hq_3 ?_
          case ho_3 => simp only [List.getElem?_toArray, List.getElem?_cons_succ, List.getElem?_cons_zero]; rfl
          case hw_3 => rfl
          case hq_3 =>
            intro W1 hW1
            obtain ⟨hcw, hfw⟩ := bcell hW1
            go_simp
            first | rfl
          simp only [Act.put, List.setIfInBounds_toArray, List.set_cons_zero, List.set_cons_succ]
          refine ord_q (o := ?o_4) (v := ?v_4) ?ho_4 ?hw_4 ?hq_4 ?_
          case ho_4 => simp only [List.getElem?_toArray, List.getElem?_cons_succ, List.getElem?_cons_zero]; rfl
          case hw_4 => rfl
          case hq_4 =>
            intro W1 hW1
            obtain ⟨hcw, hfw⟩ := bcell hW1
            go_simp
            first | rfl
          simp only [Act.put, List.setIfInBounds_toArray, List.set_cons_zero, List.set_cons_succ]
          refine ord_q (o := ?o_5) (v := ?v_5) ?ho_5 ?hw_5 ?hq_5 ?_
          case ho_5 => simp only [List.getElem?_toArray, List.getElem?_cons_succ, List.getElem?_cons_zero]; rfl
          case hw_5 => rfl
          case hq_5 =>
            intro W1 hW1
            obtain ⟨hcw, hfw⟩ := bcell hW1
            go_simp
            first | rfl
          simp only [Act.put, List.setIfInBounds_toArray, List.set_cons_zero, List.set_cons_succ]
          refine ord_q (o := ?o_6) (v := ?v_6) ?ho_6 ?hw_6 ?hq_6 ?_
          case ho_6 => simp only [List.getElem?_toArray, List.getElem?_cons_succ, List.getElem?_cons_zero]; rfl
          case hw_6 => rfl
          case hq_6 =>
            intro W1 hW1
            obtain ⟨hcw, hfw⟩ := bcell hW1
            go_simp
            first | rfl
          simp only [Act.put, List.setIfInBounds_toArray, List.set_cons_zero, List.set_cons_succ]
          refine ord_q (o := ?o_7) (v := ?v_7) ?ho_7 ?hw_7 ?hq_7 ?_
          case ho_7 => simp only [List.getElem?_toArray, List.getElem?_cons_succ, List.getElem?_cons_zero]; rfl
          case hw_7 => rfl
          case hq_7 =>
            intro W1 hW1
            obtain ⟨hcw, hfw⟩ := bcell hW1
            go_simp
            first | rfl
          simp only [Act.put, List.setIfInBounds_toArray, List.set_cons_zero, List.set_cons_succ]
          refine ord_q (o := ?o_8) (v := ?v_8) ?ho_8 ?hw_8 ?hq_8 ?_
          case ho_8 => simp only [List.getElem?_toArray, List.getElem?_cons_succ, List.getElem?_cons_zero]; rfl
          case hw_8 => rfl
          case hq_8 =>
            intro W1 hW1
            obtain ⟨hcw, hfw⟩ := bcell hW1
            go_simp
            first | rfl
          simp only [Act.put, List.setIfInBounds_toArray, List.set_cons_zero, List.set_cons_succ]
          refine ord_q (o := ?o_9) (v := ?v_9) ?ho_9 ?hw_9 ?hq_9 ?_
          case ho_9 => simp only [List.getElem?_toArray, List.getElem?_cons_succ, List.getElem?_cons_zero]; rfl
          case hw_9 => rfl
          case hq_9 =>
            intro W1 hW1
            obtain ⟨hcw, hfw⟩ := bcell hW1
            go_simp
            first | rfl
          simp only [Act.put, List.setIfInBounds_toArray, List.set_cons_zero, List.set_cons_succ]
          refine ord_q (o := ?o_10) (v := ?v_10) ?ho_10 ?hw_10 ?hq_10 ?_
          case ho_10 => simp only [List.getElem?_toArray, List.getElem?_cons_succ, List.getElem?_cons_zero]; rfl
          case hw_10 => rfl
          case hq_10 =>
            intro W1 hW1
            obtain ⟨hcw, hfw⟩ := bcell hW1
            go_simp
            first | rfl
          simp only [Act.put, List.setIfInBounds_toArray, List.set_cons_zero, List.set_cons_succ]
          refine ord_q (o := ?o_11) (v := ?v_11) ?ho_11 ?hw_11 ?hq_11 ?_
          case ho_11 => simp only [List.getElem?_toArray, List.getElem?_cons_succ, List.getElem?_cons_zero]; rfl
          case hw_11 => rfl
          case hq_11 =>
            intro W1 hW1
            obtain ⟨hcw, hfw⟩ := bcell hW1
            go_simp
            first | rfl
          simp only [Act.put, List.setIfInBounds_toArray, List.set_cons_zero, List.set_cons_succ]
          refine ord_q (o := ?o_12) (v := ?v_12) ?ho_12 ?hw_12 ?hq_12 ?_
          case ho_12 => simp only [List.getElem?_toArray, List.getElem?_cons_succ, List.getElem?_cons_zero]; rfl
          case hw_12 => rfl
          case hq_12 =>
            intro W1 hW1
            obtain ⟨hcw, hfw⟩ := bcell hW1
            go_simp
            first | rfl
          simp only [Act.put, List.setIfInBounds_toArray, List.set_cons_zero, List.set_cons_succ]
          refine ord_q (o := ?o_13) (v := ?v_13) ?ho_13 ?hw_13 ?hq_13 ?_
          case ho_13 => simp only [List.getElem?_toArray, List.getElem?_cons_succ, List.getElem?_cons_zero]; rfl
          case hw_13 => rfl
          case hq_13 =>
            intro W1 hW1
            obtain ⟨hcw, hfw⟩ := bcell hW1
            go_simp
            first | rfl
          simp only [Act.put, List.setIfInBounds_toArray, List.set_cons_zero, List.set_cons_succ]
          refine ord_alloc (o := ?o_14) (z := #[.int .i64 0, .int .i64 0]) (t := 64) (Nat.le_refl _) ?ho_14 ?hw_14 ?hr_14 (fun b4_0 hb4_0 hdb4_0 => ?_)
          case ho_14 => simp only [List.getElem?_toArray, List.getElem?_cons_succ, List.getElem?_cons_zero]; rfl
          case hw_14 => rfl
          case hr_14 => intro W1; go_simp
          simp only [Act.put, List.setIfInBounds_toArray, List.set_cons_zero, List.set_cons_succ]
          refine ord_store2 (o := ?o_15) (b := b4_0) (u0 := .int .i64 0) (u1 := .int .i64 0) (t := 64) (.int .i64 (A)) (.int .i64 (B)) ?ho_15 ?hw_15 hb4_0 (by simp) ?hr_15 ?_
          case ho_15 => simp only [List.getElem?_toArray, List.getElem?_cons_succ, List.getElem?_cons_zero]; rfl
          case hw_15 => rfl
          case hr_15 =>
            intro W1 hcs hfs
            obtain ⟨hs0, hs1⟩ := hcs
            have hg0 := hfs 0
            have hg1 := hfs 1
            go_simp
          simp only [Act.put]
          intro w4 hw4
          have hb4 := hw4.below
          obtain ⟨hBb4_0, hhb4_0⟩ := hw4.blk (b4_0, #[.int .i64 (A), .int .i64 (B)], 64) (by simp [putBlk])
          have hzb4_0 := lt_of_blk hhb4_0
          have qb4_0_0 : w4.cell? ⟨b4_0, 0, none⟩ = some (.int .i64 (A)) := cell_of_blk hhb4_0 0
          have rb4_0_0 : w4.frozen? ⟨b4_0, 0, none⟩ = false := frozen_of_blk hhb4_0 0
          have qb4_0_1 : w4.cell? ⟨b4_0, 1, none⟩ = some (.int .i64 (B)) := cell_of_blk hhb4_0 1
          have rb4_0_1 : w4.frozen? ⟨b4_0, 1, none⟩ = false := frozen_of_blk hhb4_0 1
          clear hhb4_0
          clear hw4
          obtain ⟨hc4, hf4⟩ := bcell hb4
          obtain ⟨hz4_0, hz4_1, hz4_2⟩ : w.heap.size < w4.heap.size ∧ w.heap.size + 1 < w4.heap.size ∧ w.heap.size + 1 + 1 < w4.heap.size := by have := hb4.size; (try simp at this); omega
          go_wp2_with fail
          have hB4 : Below w.heap.size w w4 := bfin (by go_grown) hb4
          refine wp_region_ext (by kernel_rfl) (by kernel_rfl) ?_
          repeat (go_big_quiet_step (first | ((go_at_call 68; refine Calls.ext_same (HCmp.out _ _ _ (by go_simp) (by go_simp) (by go_simp) (by go_simp))))))
          refine wpQuiet_nil ?_
          intro w5 hb5
          obtain ⟨hc5, hf5⟩ := bcell hb5
          have HX5 := Lib.hid (heap_below (heap_below (heap_below HN.out.2.2.1 hb3) hb4) hb5)
          have HZ5 := Lib.hid (heap_below (heap_below (heap_below HN.out.2.2.2.1 hb3) hb4) hb5)
          have HY5 := Lib.hid (heap_below (heap_below (heap_below HN.out.2.2.2.2 hb3) hb4) hb5)
          obtain ⟨⟨p0, p1⟩, ⟨gp0, gp1⟩, lp⟩ := Blk2.open_ HY5.out
          obtain ⟨hz5_0, hz5_1, hz5_2⟩ : w.heap.size < w5.heap.size ∧ w.heap.size + 1 < w5.heap.size ∧ w.heap.size + 1 + 1 < w5.heap.size := by have := hb5.size; (try simp at this); omega
          have hz5_0 : b4_0 < w5.heap.size := by have := hb5.size; (try simp at this); omega
          have hB5 : Below w.heap.size w w5 := (hb.trans (hb3.mono hsz)).trans ((hb4.trans (hb5.mono hb4.size)).mono (Nat.le_trans hsz hb3.size))
          have hs5 := hB5.size
          go_wp2_with fail
          go_roundw
          case rel => exact ⟨k + 1, a, b, by go_num, by omega, Lib.hid ⟨by rw [HV.out]; exact HN.out.1, by rw [HV.out]; exact HN.out.2.1, HX5.out, HZ5.out, HY5.out⟩, by go_grown⟩
          case measure => simp [intOf]; omega
        · skip
          have HV := Lib.hid (HY.out hx)
          have HC : cmpP A B a b < 0 := by rw [cmpP_lt, hx]
          have HCmp := Lib.hid (fun b1 b2 W h0 h1 h2 h3 => compare2_any b1 b2 2 2 A B a b W h0 h1 h2 h3)
          have hnz : N ≠ 0 := by omega
          generalize cmpP A B a b = cp at *
          clear hx
          go_wp2_with fail
          refine (HG.out _).mono ?_; rintro e w3 ⟨rfl, hb3⟩
          obtain ⟨hc3, hf3⟩ := bcell hb3
          go_wp2_with fail
          obtain ⟨hz3_0, hz3_1, hz3_2⟩ : w.heap.size < w3.heap.size ∧ w.heap.size + 1 < w3.heap.size ∧ w.heap.size + 1 + 1 < w3.heap.size := by have := hb3.size; (try simp at this); omega
          have hB3 : Below w.heap.size w w3 := bfin (by go_grown) hb3
          refine wp_region_ord [(0, false), (1, false), (2, false), (3, false), (4, false), (5, false), (6, false), (7, false), (8, false), (9, false), (10, false), (11, false), (12, false), (13, true), (14, true)] (by kernel_rfl) (by kernel_rfl) ?_
          refine ord_q (o := ?o_16) (v := ?v_16) ?ho_16 ?hw_16 ?hq_16 ?_
          case ho_16 => simp only [List.getElem?_toArray, List.getElem?_cons_zero]; rfl
          case hw_16 => rfl
          case hq_16 =>
            intro W1 hW1
            obtain ⟨hcw, hfw⟩ := bcell hW1
            go_simp
            first | rfl
          simp only [Act.put, List.setIfInBounds_toArray, List.set_cons_zero, List.set_cons_succ]
          refine ord_q (o := ?o_17) (v := ?v_17) ?ho_17 ?hw_17 ?hq_17 ?_
          case ho_17 => simp only [List.getElem?_toArray, List.getElem?_cons_succ, List.getElem?_cons_zero]; rfl
          case hw_17 => rfl
          case hq_17 =>
            intro W1 hW1
            obtain ⟨hcw, hfw⟩ := bcell hW1
            go_simp
            first | rfl
          simp only [Act.put, List.setIfInBounds_toArray, List.set_cons_zero, List.set_cons_succ]
          refine ord_q (o := ?o_18) (v := ?v_18) ?ho_18 ?hw_18 ?hq_18 ?_
          case ho_18 => simp only [List.getElem?_toArray, List.getElem?_cons_succ, List.getElem?_cons_zero]; rfl
          case hw_18 => rfl
          case hq_18 =>
            intro W1 hW1
            obtain ⟨hcw, hfw⟩ := bcell hW1
            go_simp
            first | rfl
          simp only [Act.put, List.setIfInBounds_toArray, List.set_cons_zero, List.set_cons_succ]
          refine ord_q (o := ?o_19) (v := ?v_19) ?ho_19 ?hw_19 ?hq_19 ?_
          case ho_19 => simp only [List.getElem?_toArray, List.getElem?_cons_succ, List.getElem?_cons_zero]; rfl
          case hw_19 => rfl
          case hq_19 =>
            intro W1 hW1
            obtain ⟨hcw, hfw⟩ := bcell hW1
            go_simp
            first | rfl
          simp only [Act.put, List.setIfInBounds_toArray, List.set_cons_zero, List.set_cons_succ]
          refine ord_q (o := ?o_20) (v := ?v_20) ?ho_20 ?hw_20 ?hq_20 ?_
          case ho_20 => simp only [List.getElem?_toArray, List.getElem?_cons_succ, List.getElem?_cons_zero]; rfl
          case hw_20 => rfl
          case hq_20 =>
            intro W1 hW1
            obtain ⟨hcw, hfw⟩ := bcell hW1
            go_simp
            first | rfl
          simp only [Act.put, List.setIfInBounds_toArray, List.set_cons_zero, List.set_cons_succ]
          refine ord_q (o := ?o_21) (v := ?v_21) ?ho_21 ?hw_21 ?hq_21 ?_
          case ho_21 => simp only [List.getElem?_toArray, List.getElem?_cons_succ, List.getElem?_cons_zero]; rfl
          case hw_21 => rfl
          case hq_21 =>
            intro W1 hW1
            obtain ⟨hcw, hfw⟩ := bcell hW1
            go_simp
            first | rfl
          simp only [Act.put, List.setIfInBounds_toArray, List.set_cons_zero, List.set_cons_succ]
          refine ord_q (o := ?o_22) (v := ?v_22) ?ho_22 ?hw_22 ?hq_22 ?_
          case ho_22 => simp only [List.getElem?_toArray, List.getElem?_cons_succ, List.getElem?_cons_zero]; rfl
          case hw_22 => rfl
          case hq_22 =>
            intro W1 hW1
            obtain ⟨hcw, hfw⟩ := bcell hW1
            go_simp
            first | rfl
          simp only [Act.put, List.setIfInBounds_toArray, List.set_cons_zero, List.set_cons_succ]
          refine ord_q (o := ?o_23) (v := ?v_23) ?ho_23 ?hw_23 ?hq_23 ?_
          case ho_23 => simp only [List.getElem?_toArray, List.getElem?_cons_succ, List.getElem?_cons_zero]; rfl
          case hw_23 => rfl
          case hq_23 =>
            intro W1 hW1
            obtain ⟨hcw, hfw⟩ := bcell hW1
            go_simp
            first | rfl
          simp only [Act.put, List.setIfInBounds_toArray, List.set_cons_zero, List.set_cons_succ]
          refine ord_q (o := ?o_24) (v := ?v_24) ?ho_24 ?hw_24 ?hq_24 ?_
          case ho_24 => simp only [List.getElem?_toArray, List.getElem?_cons_succ, List.getElem?_cons_zero]; rfl
          case hw_24 => rfl
          case hq_24 =>
            intro W1 hW1
            obtain ⟨hcw, hfw⟩ := bcell hW1
            go_simp
            first | rfl
          simp only [Act.put, List.setIfInBounds_toArray, List.set_cons_zero, List.set_cons_succ]
          refine ord_q (o := ?o_25) (v := ?v_25) ?ho_25 ?hw_25 ?hq_25 ?_
          case ho_25 => simp only [List.getElem?_toArray, List.getElem?_cons_succ, List.getElem?_cons_zero]; rfl
          case hw_25 => rfl
          case hq_25 =>
            intro W1 hW1
            obtain ⟨hcw, hfw⟩ := bcell hW1
            go_simp
            first | rfl
          simp only [Act.put, List.setIfInBounds_toArray, List.set_cons_zero, List.set_cons_succ]
          refine ord_q (o := ?o_26) (v := ?v_26) ?ho_26 ?hw_26 ?hq_26 ?_
          case ho_26 => simp only [List.getElem?_toArray, List.getElem?_cons_succ, List.getElem?_cons_zero]; rfl
          case hw_26 => rfl
          case hq_26 =>
            intro W1 hW1
            obtain ⟨hcw, hfw⟩ := bcell hW1
            go_simp
            first | rfl
          simp only [Act.put, List.setIfInBounds_toArray, List.set_cons_zero, List.set_cons_succ]
          refine ord_q (o := ?o_27) (v := ?v_27) ?ho_27 ?hw_27 ?hq_27 ?_
          case ho_27 => simp only [List.getElem?_toArray, List.getElem?_cons_succ, List.getElem?_cons_zero]; rfl
          case hw_27 => rfl
          case hq_27 =>
            intro W1 hW1
            obtain ⟨hcw, hfw⟩ := bcell hW1
            go_simp
            first | rfl
          simp only [Act.put, List.setIfInBounds_toArray, List.set_cons_zero, List.set_cons_succ]
          refine ord_q (o := ?o_28) (v := ?v_28) ?ho_28 ?hw_28 ?hq_28 ?_
          case ho_28 => simp only [List.getElem?_toArray, List.getElem?_cons_succ, List.getElem?_cons_zero]; rfl
          case hw_28 => rfl
          case hq_28 =>
            intro W1 hW1
            obtain ⟨hcw, hfw⟩ := bcell hW1
            go_simp
            first | rfl
          simp only [Act.put, List.setIfInBounds_toArray, List.set_cons_zero, List.set_cons_succ]
          refine ord_alloc (o := ?o_29) (z := #[.int .i64 0, .int .i64 0]) (t := 64) (Nat.le_refl _) ?ho_29 ?hw_29 ?hr_29 (fun b4_0 hb4_0 hdb4_0 => ?_)
          case ho_29 => simp only [List.getElem?_toArray, List.getElem?_cons_succ, List.getElem?_cons_zero]; rfl
          case hw_29 => rfl
          case hr_29 => intro W1; go_simp
          simp only [Act.put, List.setIfInBounds_toArray, List.set_cons_zero, List.set_cons_succ]
          refine ord_store2 (o := ?o_30) (b := b4_0) (u0 := .int .i64 0) (u1 := .int .i64 0) (t := 64) (.int .i64 (A)) (.int .i64 (B)) ?ho_30 ?hw_30 hb4_0 (by simp) ?hr_30 ?_
          case ho_30 => simp only [List.getElem?_toArray, List.getElem?_cons_succ, List.getElem?_cons_zero]; rfl
          case hw_30 => rfl
          case hr_30 =>
            intro W1 hcs hfs
            obtain ⟨hs0, hs1⟩ := hcs
            have hg0 := hfs 0
            have hg1 := hfs 1
            go_simp
          simp only [Act.put]
          intro w4 hw4
          have hb4 := hw4.below
          obtain ⟨hBb4_0, hhb4_0⟩ := hw4.blk (b4_0, #[.int .i64 (A), .int .i64 (B)], 64) (by simp [putBlk])
          have hzb4_0 := lt_of_blk hhb4_0
          have qb4_0_0 : w4.cell? ⟨b4_0, 0, none⟩ = some (.int .i64 (A)) := cell_of_blk hhb4_0 0
          have rb4_0_0 : w4.frozen? ⟨b4_0, 0, none⟩ = false := frozen_of_blk hhb4_0 0
          have qb4_0_1 : w4.cell? ⟨b4_0, 1, none⟩ = some (.int .i64 (B)) := cell_of_blk hhb4_0 1
          have rb4_0_1 : w4.frozen? ⟨b4_0, 1, none⟩ = false := frozen_of_blk hhb4_0 1
          clear hhb4_0
          clear hw4
          obtain ⟨hc4, hf4⟩ := bcell hb4
          obtain ⟨hz4_0, hz4_1, hz4_2⟩ : w.heap.size < w4.heap.size ∧ w.heap.size + 1 < w4.heap.size ∧ w.heap.size + 1 + 1 < w4.heap.size := by have := hb4.size; (try simp at this); omega
          go_wp2_with fail
          have hB4 : Below w.heap.size w w4 := bfin (by go_grown) hb4
          refine wp_region_ext (by kernel_rfl) (by kernel_rfl) ?_
          repeat (go_big_quiet_step (first | ((go_at_call 68; refine Calls.ext_same (HCmp.out _ _ _ (by go_simp) (by go_simp) (by go_simp) (by go_simp))))))
          refine wpQuiet_nil ?_
          intro w5 hb5
          obtain ⟨hc5, hf5⟩ := bcell hb5
          have HX5 := Lib.hid (heap_below (heap_below (heap_below HN.out.2.2.1 hb3) hb4) hb5)
          have HZ5 := Lib.hid (heap_below (heap_below (heap_below HN.out.2.2.2.1 hb3) hb4) hb5)
          have HY5 := Lib.hid (heap_below (heap_below (heap_below HN.out.2.2.2.2 hb3) hb4) hb5)
          obtain ⟨⟨p0, p1⟩, ⟨gp0, gp1⟩, lp⟩ := Blk2.open_ HY5.out
          obtain ⟨hz5_0, hz5_1, hz5_2⟩ : w.heap.size < w5.heap.size ∧ w.heap.size + 1 < w5.heap.size ∧ w.heap.size + 1 + 1 < w5.heap.size := by have := hb5.size; (try simp at this); omega
          have hz5_0 : b4_0 < w5.heap.size := by have := hb5.size; (try simp at this); omega
          have hB5 : Below w.heap.size w w5 := (hb.trans (hb3.mono hsz)).trans ((hb4.trans (hb5.mono hb4.size)).mono (Nat.le_trans hsz hb3.size))
          have hs5 := hB5.size
          go_wp2_with fail
          go_roundw
          case rel => exact ⟨k + 1, A, B, by go_num, by omega, Lib.hid ⟨by rw [HV.out], by rw [HV.out], heap_keep (heap_keep (by exact HX5.out) (by omega)) (by omega), heap_keep (heap_keep (by exact HZ5.out) (by omega)) (by omega), heap_set2 (by exact HY5.out)⟩, by go_grown⟩
          case measure => simp [intOf]; omega
      · have HV := Lib.hid (@nrm_skip N c d k hg)
        have hg1 : 1 < (Int.gcd ((k : Int) + 1) N : Int) := by
          have h0 : 0 < Int.gcd ((k : Int) + 1) (N : Int) := Int.gcd_pos_of_ne_zero_left _ (by omega)
          omega
        clear hg
        generalize (Int.gcd ((k : Int) + 1) N : Int) = g2 at *
        go_wp2_with fail
        refine (HG.out _).mono ?_; rintro e w3 ⟨rfl, hb3⟩
        have hB3 := hb.trans (hb3.mono hsz)
        go_wp2_with fail
        go_roundw
        case rel => exact ⟨k + 1, a, b, by go_num, by omega, Lib.hid ⟨by rw [HV.out]; exact HN.out.1, by rw [HV.out]; exact HN.out.2.1, heap_below HN.out.2.2.1 hb3, heap_below HN.out.2.2.2.1 hb3, heap_below HN.out.2.2.2.2 hb3⟩, hB3⟩
        case measure => simp [intOf]; omega
    · have HE := Lib.hid (show N - 1 = k by omega)
      have HF : Hid ((nrm N c d (N - 1)).x = a ∧ (nrm N c d (N - 1)).y = b) := by rw [HE.out]; exact Lib.hid ⟨HN.out.1, HN.out.2.1⟩
      go_wp2_with fail
      refine bodyPost_ret (v := (.agg #[.int .i64 a, .int .i64 b])) (by simp [results, Tryz.results49, go_sem, z0, z1]) rfl ⟨by rw [HF.out.1, HF.out.2], by go_grown⟩
end Go.Proofs.YtjkemnnkgihefaaGreat
