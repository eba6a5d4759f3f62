/- Draws of matrices: products of three, kinds, powers. -/
import Derived.Test.YtjnkogkpdbgohaaGreatDoorD10
namespace Go.Proofs.YtjnkogkpdbgohaaGreatDoor
open Go.RowKit
/-- Endings of functions that draw. -/
def RetMC (e : Ending) : Prop := ∃ p q r s c : Int, e = .returned (.tuple #[(.agg #[.int .i64 p, .int .i64 q, .int .i64 r, .int .i64 s]), (.int .i64 c)]) ∧ EM p q r s
def RetMB (e : Ending) : Prop := ∃ (p q r s : Int) (k : Bool), e = .returned (.tuple #[(.agg #[.int .i64 p, .int .i64 q, .int .i64 r, .int .i64 s]), .bool k]) ∧ EM p q r s
def RetM (e : Ending) : Prop := ∃ p q r s : Int, e = .returned (.agg #[.int .i64 p, .int .i64 q, .int .i64 r, .int .i64 s]) ∧ EM p q r s
def timesR (m n : M4) : M4 × Bool := if entQ (mulM m n) = true then (mulM m n, true) else (⟨0, 0, 0, 0⟩, false)
theorem timesR_em {m n : M4} : EM (timesR m n).1.p (timesR m n).1.q (timesR m n).1.r (timesR m n).1.s := by
  unfold timesR
  split
  · rename_i h; exact EM.of h
  · exact EM.zero
theorem l01Times_fun (p q r s p' q' r' s' : Int) (w : World) (h : EM p q r s) (h' : EM p' q' r' s') :
    Calls Tryz.prog 110 #[(.agg #[.int .i64 p, .int .i64 q, .int .i64 r, .int .i64 s]), (.agg #[.int .i64 p', .int .i64 q', .int .i64 r', .int .i64 s'])] w fun e w' => e = .returned (.tuple #[(.agg #[.int .i64 ((timesR ⟨p, q, r, s⟩ ⟨p', q', r', s'⟩).1.p), .int .i64 ((timesR ⟨p, q, r, s⟩ ⟨p', q', r', s'⟩).1.q), .int .i64 ((timesR ⟨p, q, r, s⟩ ⟨p', q', r', s'⟩).1.r), .int .i64 ((timesR ⟨p, q, r, s⟩ ⟨p', q', r', s'⟩).1.s)]), .bool (timesR ⟨p, q, r, s⟩ ⟨p', q', r', s'⟩).2]) ∧ Below w.heap.size w w' := by
  cases he : entQ (mulM ⟨p, q, r, s⟩ ⟨p', q', r', s'⟩)
  · rw [show timesR ⟨p, q, r, s⟩ ⟨p', q', r', s'⟩ = (⟨0, 0, 0, 0⟩, false) by simp [timesR, he]]
    exact l01Times_no ⟨p, q, r, s⟩ ⟨p', q', r', s'⟩ w h.e24 h'.e24 he
  · rw [show timesR ⟨p, q, r, s⟩ ⟨p', q', r', s'⟩ = (mulM ⟨p, q, r, s⟩ ⟨p', q', r', s'⟩, true) by simp [timesR, he]]
    exact l01Times_yes ⟨p, q, r, s⟩ ⟨p', q', r', s'⟩ w h.e24 h'.e24 he
/-- Three small matrices in a row. -/
def Row3 (w : World) (b : Nat) : Prop := ∀ k : Nat, k < 3 → ∃ p q r s : Int, EM p q r s ∧ w.cell? ⟨b, k * 4, none⟩ = some (.int .i64 p) ∧ w.cell? ⟨b, k * 4 + 1, none⟩ = some (.int .i64 q) ∧ w.cell? ⟨b, k * 4 + 2, none⟩ = some (.int .i64 r) ∧ w.cell? ⟨b, k * 4 + 3, none⟩ = some (.int .i64 s)
theorem Row3.below {w w' : World} {b : Nat} (h : Row3 w b) (hl : b < w.heap.size) (hb : Below w.heap.size w w') : Row3 w' b := fun k hk => by
  obtain ⟨p, q, r, s, he, h0, h1, h2, h3⟩ := h k hk
  exact ⟨p, q, r, s, he, (hb.cell (p := ⟨b, _, none⟩) hl).trans h0, (hb.cell (p := ⟨b, _, none⟩) hl).trans h1, (hb.cell (p := ⟨b, _, none⟩) hl).trans h2, (hb.cell (p := ⟨b, _, none⟩) hl).trans h3⟩
set_option maxRecDepth 1000000 in
set_option maxHeartbeats 2000000 in
theorem l01Product_any (b : Nat) (w : World) (hl : b < w.heap.size) (hr : Row3 w b) :
    Calls Tryz.prog 90 #[.slice (some ⟨b, 0, none⟩) 3 3] w fun e w' => RetMC e ∧ Below w.heap.size w w' := by
  obtain ⟨p0, q0, r0, s0, hem, c0, c1, c2, c3⟩ := hr 0 (by omega)
  have HE := Lib.hid hem
  have HR := Lib.hid hr
  have hne : w.heap.size ≠ b := by omega
  simp only [Nat.zero_mul, Nat.zero_add] at c0 c1 c2 c3
  clear hem hr
  go_enter Tryz.func90, Tryz.ntmps90
  go_wp2_with fail
  go_loopw [5] (fun i wr => ∃ (k : Nat) (p q r s : Int), i = (.int .i64 ((k : Int))) ∧ (1 ≤ k ∧ k ≤ 3) ∧ Hid (EM p q r s ∧ Bm wr (w.heap.size + 1) p q r s ∧ Bm wr w.heap.size 0 0 0 0) ∧ Below w.heap.size w wr) (fun i _ => 3 - (intOf i).toNat)
  case atStart => exact ⟨1, p0, q0, r0, s0, rfl, by omega, Lib.hid ⟨HE.out, by have := Bm.new (w := w.alloc (.cells #[(.int .i64 0), (.int .i64 0), (.int .i64 0), (.int .i64 0)] 94)) (p := p0) (q := q0) (s := r0) (u := s0); simpa using this, Bm.new.alloc _⟩, by go_grown⟩
  case round =>
    clear c0 c1 c2 c3
    obtain ⟨k, p, q, r, s, rfl, hk, HP, hb⟩ := hrel
    obtain ⟨⟨c0, c1, c2, c3⟩, ⟨f0, f1, f2, f3⟩, hl4⟩ := HP.out.2.1.open_
    obtain ⟨⟨z0, z1, z2, z3⟩, ⟨g0, g1, g2, g3⟩, hl2⟩ := HP.out.2.2.open_
    by_cases hk2 : k < 3
    · obtain ⟨p', q', r', s', he', d0, d1, d2, d3⟩ := (HR.out.below hl hb) k hk2
      have hk3 : (k : Int) < 3 := by omega
      have hbw : b < wr.heap.size := Nat.lt_of_lt_of_le hl hb.size
      have HT := Lib.hid (fun W => l01Times_fun p q r s p' q' r' s' W HP.out.1 he')
      have HM := Lib.hid (timesR_em (m := ⟨p, q, r, s⟩) (n := ⟨p', q', r', s'⟩))
      generalize (timesR ⟨p, q, r, s⟩ ⟨p', q', r', s'⟩).1.p = x at *
      generalize (timesR ⟨p, q, r, s⟩ ⟨p', q', r', s'⟩).1.q = y at *
      generalize (timesR ⟨p, q, r, s⟩ ⟨p', q', r', s'⟩).1.r = z at *
      generalize (timesR ⟨p, q, r, s⟩ ⟨p', q', r', s'⟩).1.s = u at *
      generalize (timesR ⟨p, q, r, s⟩ ⟨p', q', r', s'⟩).2 = ok at *
      clear he'
      go_wp2_with fail
      refine wp_region_ord [(0, false), (1, false), (2, false), (3, false), (4, false), (5, false), (6, false), (7, false), (8, false), (9, true), (10, true), (11, false)] (by kernel_rfl) (by kernel_rfl) ?_
      refine ord_q (o := ?o_1) (v := ?v_1) ?ho_1 ?hw_1 ?hq_1 ?_
      case ho_1 => simp only [List.getElem?_toArray, List.getElem?_cons_zero]; rfl
      case hw_1 => rfl
      case hq_1 =>
        intro W1 hW1
        obtain ⟨hcw, hfw⟩ := bcell hW1
        go_simp
        first | (go_at_call 110; with_reducible exact HT.out _) | rfl
      simp only [Act.put, List.setIfInBounds_toArray, List.set_cons_zero, List.set_cons_succ]
      refine ord_q (o := ?o_2) (v := ?v_2) ?ho_2 ?hw_2 ?hq_2 ?_
      case ho_2 => simp only [List.getElem?_toArray, List.getElem?_cons_succ, List.getElem?_cons_zero]; rfl
      case hw_2 => rfl
      case hq_2 =>
        intro W1 hW1
        obtain ⟨hcw, hfw⟩ := bcell hW1
        go_simp
        first | (go_at_call 110; with_reducible exact HT.out _) | rfl
      simp only [Act.put, List.setIfInBounds_toArray, List.set_cons_zero, List.set_cons_succ]
      refine ord_q (o := ?o_3) (v := ?v_3) ?ho_3 ?hw_3 ?hq_3 ?_
      case ho_3 => simp only [List.getElem?_toArray, List.getElem?_cons_succ, List.getElem?_cons_zero]; rfl
      case hw_3 => rfl
      case hq_3 =>
        intro W1 hW1
        obtain ⟨hcw, hfw⟩ := bcell hW1
        go_simp
        first | (go_at_call 110; with_reducible exact HT.out _) | rfl
      simp only [Act.put, List.setIfInBounds_toArray, List.set_cons_zero, List.set_cons_succ]
      refine ord_q (o := ?o_4) (v := ?v_4) ?ho_4 ?hw_4 ?hq_4 ?_
      case ho_4 => simp only [List.getElem?_toArray, List.getElem?_cons_succ, List.getElem?_cons_zero]; rfl
      case hw_4 => rfl
      case hq_4 =>
        intro W1 hW1
        obtain ⟨hcw, hfw⟩ := bcell hW1
        go_simp
        first | (go_at_call 110; with_reducible exact HT.out _) | rfl
      simp only [Act.put, List.setIfInBounds_toArray, List.set_cons_zero, List.set_cons_succ]
      refine ord_q (o := ?o_5) (v := ?v_5) ?ho_5 ?hw_5 ?hq_5 ?_
      case ho_5 => simp only [List.getElem?_toArray, List.getElem?_cons_succ, List.getElem?_cons_zero]; rfl
      case hw_5 => rfl
      case hq_5 =>
        intro W1 hW1
        obtain ⟨hcw, hfw⟩ := bcell hW1
        go_simp
        first | (go_at_call 110; with_reducible exact HT.out _) | rfl
      simp only [Act.put, List.setIfInBounds_toArray, List.set_cons_zero, List.set_cons_succ]
      refine ord_q (o := ?o_6) (v := ?v_6) ?ho_6 ?hw_6 ?hq_6 ?_
      case ho_6 => simp only [List.getElem?_toArray, List.getElem?_cons_succ, List.getElem?_cons_zero]; rfl
      case hw_6 => rfl
      case hq_6 =>
        intro W1 hW1
        obtain ⟨hcw, hfw⟩ := bcell hW1
        go_simp
        first | (go_at_call 110; with_reducible exact HT.out _) | rfl
      simp only [Act.put, List.setIfInBounds_toArray, List.set_cons_zero, List.set_cons_succ]
      refine ord_q (o := ?o_7) (v := ?v_7) ?ho_7 ?hw_7 ?hq_7 ?_
      case ho_7 => simp only [List.getElem?_toArray, List.getElem?_cons_succ, List.getElem?_cons_zero]; rfl
      case hw_7 => rfl
      case hq_7 =>
        intro W1 hW1
        obtain ⟨hcw, hfw⟩ := bcell hW1
        go_simp
        first | (go_at_call 110; with_reducible exact HT.out _) | rfl
      simp only [Act.put, List.setIfInBounds_toArray, List.set_cons_zero, List.set_cons_succ]
      refine ord_q (o := ?o_8) (v := ?v_8) ?ho_8 ?hw_8 ?hq_8 ?_
      case ho_8 => simp only [List.getElem?_toArray, List.getElem?_cons_succ, List.getElem?_cons_zero]; rfl
      case hw_8 => rfl
      case hq_8 =>
        intro W1 hW1
        obtain ⟨hcw, hfw⟩ := bcell hW1
        go_simp
        first | (go_at_call 110; with_reducible exact HT.out _) | rfl
      simp only [Act.put, List.setIfInBounds_toArray, List.set_cons_zero, List.set_cons_succ]
      refine ord_q (o := ?o_9) (v := ?v_9) ?ho_9 ?hw_9 ?hq_9 ?_
      case ho_9 => simp only [List.getElem?_toArray, List.getElem?_cons_succ, List.getElem?_cons_zero]; rfl
      case hw_9 => rfl
      case hq_9 =>
        intro W1 hW1
        obtain ⟨hcw, hfw⟩ := bcell hW1
        go_simp
        first | (go_at_call 110; with_reducible exact HT.out _) | rfl
      simp only [Act.put, List.setIfInBounds_toArray, List.set_cons_zero, List.set_cons_succ]
      refine ord_alloc (o := ?o_10) (z := #[.int .i64 0, .int .i64 0, .int .i64 0, .int .i64 0]) (t := 94) (Nat.le_refl _) ?ho_10 ?hw_10 ?hr_10 (fun b1_0 hb1_0 hdb1_0 => ?_)
      case ho_10 => simp only [List.getElem?_toArray, List.getElem?_cons_succ, List.getElem?_cons_zero]; rfl
      case hw_10 => rfl
      case hr_10 => intro W1; go_simp
      simp only [Act.put, List.setIfInBounds_toArray, List.set_cons_zero, List.set_cons_succ]
      refine ord_store4 (o := ?o_11) (b := b1_0) (u0 := .int .i64 0) (u1 := .int .i64 0) (u2 := .int .i64 0) (u3 := .int .i64 0) (t := 94) (.int .i64 (x)) (.int .i64 (y)) (.int .i64 (z)) (.int .i64 (u)) ?ho_11 ?hw_11 hb1_0 (by simp) ?hr_11 ?_
      case ho_11 => simp only [List.getElem?_toArray, List.getElem?_cons_succ, List.getElem?_cons_zero]; rfl
      case hw_11 => rfl
      case hr_11 =>
        intro W1 hcs hfs
        obtain ⟨hs0, hs1, hs2, hs3⟩ := hcs
        have hg0 := hfs 0
        have hg1 := hfs 1
        have hg2 := hfs 2
        have hg3 := hfs 3
        go_simp
      simp only [Act.put]
      refine ord_q (o := ?o_12) (v := ?v_12) ?ho_12 ?hw_12 ?hq_12 ?_
      case ho_12 => simp only [List.getElem?_toArray, List.getElem?_cons_succ, List.getElem?_cons_zero]; rfl
      case hw_12 => rfl
      case hq_12 =>
        intro W1 hW1
        obtain ⟨hcw, hfw⟩ := bcell hW1
        go_simp
        first | (go_at_call 110; with_reducible exact HT.out _) | rfl
      simp only [Act.put, List.setIfInBounds_toArray, List.set_cons_zero, List.set_cons_succ]
      intro w1 hw1
      have hb1 := hw1.below
      obtain ⟨hBb1_0, hhb1_0⟩ := hw1.blk (b1_0, #[.int .i64 (x), .int .i64 (y), .int .i64 (z), .int .i64 (u)], 94) (by simp [putBlk])
      have hzb1_0 := lt_of_blk hhb1_0
      have qb1_0_0 : w1.cell? ⟨b1_0, 0, none⟩ = some (.int .i64 (x)) := cell_of_blk hhb1_0 0
      have rb1_0_0 : w1.frozen? ⟨b1_0, 0, none⟩ = false := frozen_of_blk hhb1_0 0
      have qb1_0_1 : w1.cell? ⟨b1_0, 1, none⟩ = some (.int .i64 (y)) := cell_of_blk hhb1_0 1
      have rb1_0_1 : w1.frozen? ⟨b1_0, 1, none⟩ = false := frozen_of_blk hhb1_0 1
      have qb1_0_2 : w1.cell? ⟨b1_0, 2, none⟩ = some (.int .i64 (z)) := cell_of_blk hhb1_0 2
      have rb1_0_2 : w1.frozen? ⟨b1_0, 2, none⟩ = false := frozen_of_blk hhb1_0 2
      have qb1_0_3 : w1.cell? ⟨b1_0, 3, none⟩ = some (.int .i64 (u)) := cell_of_blk hhb1_0 3
      have rb1_0_3 : w1.frozen? ⟨b1_0, 3, none⟩ = false := frozen_of_blk hhb1_0 3
      clear hhb1_0
      clear hw1
      obtain ⟨hc1, hf1⟩ := bcell hb1
      have BM := Lib.hid (HP.out.2.1.below hb1)
      have BZ := Lib.hid (HP.out.2.2.below hb1)
      have HB1 := Lib.hid (hb.trans (hb1.mono hb.size))
      clear hc1 hf1 hb1 HP c0 c1 c2 c3 f0 f1 f2 f3 z0 z1 z2 z3 g0 g1 g2 g3 hl4 hl2 d0 d1 d2 d3
      obtain ⟨⟨c0, c1, c2, c3⟩, ⟨f0, f1, f2, f3⟩, hl4⟩ := BM.out.open_
      obtain ⟨⟨z0, z1, z2, z3⟩, ⟨g0, g1, g2, g3⟩, hl2⟩ := BZ.out.open_
      have hn4 : w.heap.size + 1 ≠ w.heap.size := by omega
      cases ok
      · go_wp2_with fail
        refine bodyPost_ret (v := .tuple #[(.agg #[.int .i64 0, .int .i64 0, .int .i64 0, .int .i64 0]), (.int .i64 3)]) (by simp [results, Tryz.results90, go_sem, set4_0 BZ.out, set4_1 BZ.out, set4_2 BZ.out, set4_3 BZ.out] <;> rfl) rfl ?_
        exact ⟨⟨0, 0, 0, 0, 3, rfl, EM.zero⟩, below_set4 HB1.out (Nat.le_refl _)⟩
      · go_wp2_with fail
        go_roundw
        case rel => exact ⟨k + 1, x, y, z, u, by go_num, by omega, Lib.hid ⟨HM.out, heap_set4 BM.out, BZ.out.far _ _ _ _ (Ne.symm hn4)⟩, below_set4 HB1.out (by omega)⟩
        case measure => simp [intOf]; omega
    · obtain rfl : k = 3 := by omega
      have BZ := Lib.hid HP.out.2.2
      have HM := Lib.hid HP.out.1
      clear HP
      go_wp2_with fail
      refine bodyPost_ret (v := .tuple #[(.agg #[.int .i64 p, .int .i64 q, .int .i64 r, .int .i64 s]), (.int .i64 0)]) (by simp [results, Tryz.results90, go_sem, set4_0 BZ.out, set4_1 BZ.out, set4_2 BZ.out, set4_3 BZ.out] <;> rfl) rfl ?_
      exact ⟨⟨_, _, _, _, _, rfl, HM.out⟩, below_set4 hb (Nat.le_refl _)⟩
theorem l01Trace_em (a b c d : Int) (w : World) (h : EM a b c d) :
    Calls Tryz.prog 121 #[(.agg #[.int .i64 a, .int .i64 b, .int .i64 c, .int .i64 d])] w fun e w' => e = .returned (.int .i64 (a + d)) ∧ Below w.heap.size w w' := by
  obtain ⟨⟨a0, a1⟩, ⟨b0, b1⟩, ⟨c0, c1⟩, ⟨d0, d1⟩⟩ := h
  go_enter Tryz.func121, Tryz.ntmps121
  go_wp2
  go_ret
  exact ⟨rfl, by go_grown⟩
set_option maxRecDepth 100000 in
set_option maxHeartbeats 1000000 in
theorem l01Kind_em (a b c d : Int) (w : World) (h : EM a b c d) :
    Calls Tryz.prog 111 #[(.agg #[.int .i64 a, .int .i64 b, .int .i64 c, .int .i64 d])] w fun e w' => RetI e ∧ Below w.heap.size w w' := by
  have HT := Lib.hid (fun W => l01Trace_em a b c d W h)
  obtain ⟨⟨a0, a1⟩, -, -, ⟨d0, d1⟩⟩ := h
  obtain ⟨t, ht⟩ : ∃ t, a + d = t := ⟨_, rfl⟩
  have ht0 : -2000000000 ≤ t ∧ t ≤ 2000000000 := by omega
  rw [ht] at HT
  clear ht a0 a1 d0 d1
  have hneg : IntKind.i64.wrap (-t) = -t := IntWalk.i64_in _ (by omega)
  go_enter Tryz.func111, Tryz.ntmps111
  go_wp2_with fail
  refine wp_region_ext (by kernel_rfl) (by kernel_rfl) ?_
  repeat (go_big_quiet_step (first | ((go_at_call 121; refine Calls.ext_of (Nat.le_refl _) (HT.out _)))))
  refine wpQuiet_nil ?_
  intro w1 hb1
  obtain ⟨hc1, hf1⟩ := bcell hb1
  generalize (if t < -t then -t else t) = T at *
  have HB1 := Lib.hid (show Below w.heap.size w w1 from bfin (by go_grown) hb1)
  have hcell := heap_below (heap_new (w := w) (p := .cells #[(.int .i64 a), (.int .i64 b), (.int .i64 c), (.int .i64 d)] 94)) hb1
  obtain ⟨⟨q0, q1, q2, q3⟩, -, hz⟩ := Blk4.open_ hcell
  clear hc1 hf1 hb1 HT hneg ht0 hcell
  go_wp2_with fail
  all_goals (go_ret; exact ⟨⟨_, rfl⟩, HB1.out⟩)
end Go.Proofs.YtjnkogkpdbgohaaGreatDoor
