/- Draws of matrices whose determinant is 1 (the texts D11, D13, D14 again, with that word). -/
import Derived.Test.YtjnkogkpdbgohaaGreatDoorD14
namespace Go.Proofs.YtjnkogkpdbgohaaGreatDoor.Dm
open Go.RowKit
structure DM (p q r s : Int) : Prop where
  em : EM p q r s
  det : p * s - q * r = 1
theorem DM.one : DM 1 0 0 1 := ⟨EM.one, by omega⟩
theorem DM.inv {p q r s : Int} (h : DM p q r s) : DM s (-q) (-r) p := ⟨h.em.inv, by
  have e : s * p - -q * -r = p * s - q * r := by grind
  rw [e]; exact h.det⟩
theorem DM.of {p q r s : Int} (h : isMat p q r s = true) : DM p q r s := by
  simp only [isMat, entB, inB, Bool.and_eq_true, decide_eq_true_eq, beq_iff_eq] at h
  exact ⟨⟨by omega, by omega, by omega, by omega⟩, h.2.2.2.2⟩
theorem timesR_dm {p q r s p' q' r' s' : Int} (h : DM p q r s) (h' : DM p' q' r' s') (hk : (timesR ⟨p, q, r, s⟩ ⟨p', q', r', s'⟩).2 = true) : DM (timesR ⟨p, q, r, s⟩ ⟨p', q', r', s'⟩).1.p (timesR ⟨p, q, r, s⟩ ⟨p', q', r', s'⟩).1.q (timesR ⟨p, q, r, s⟩ ⟨p', q', r', s'⟩).1.r (timesR ⟨p, q, r, s⟩ ⟨p', q', r', s'⟩).1.s := by
  refine ⟨timesR_em, ?_⟩
  unfold timesR at *
  split at hk
  · rename_i he
    rw [if_pos he]
    have := det_mul ⟨p, q, r, s⟩ ⟨p', q', r', s'⟩
    simp only [h.det, h'.det, Int.one_mul] at this
    exact this
  · cases hk
theorem l01Times_dm (p q r s p' q' r' s' : Int) (w : World) (h : DM p q r s) (h' : DM p' q' r' s') :
    Calls Tryz.prog 110 #[(.agg #[.int .i64 p, .int .i64 q, .int .i64 r, .int .i64 s]), (.agg #[.int .i64 p', .int .i64 q', .int .i64 r', .int .i64 s'])] w fun e w' => (∃ (x y z u : Int) (k : Bool), e = .returned (.tuple #[(.agg #[.int .i64 x, .int .i64 y, .int .i64 z, .int .i64 u]), .bool k]) ∧ (k = true → DM x y z u)) ∧ Below w.heap.size w w' := by
  refine (l01Times_fun p q r s p' q' r' s' w h.em h'.em).mono ?_
  rintro e w' ⟨rfl, hb⟩
  exact ⟨⟨_, _, _, _, _, rfl, timesR_dm h h'⟩, hb⟩
def RetM (e : Ending) : Prop := ∃ p q r s : Int, e = .returned (.agg #[.int .i64 p, .int .i64 q, .int .i64 r, .int .i64 s]) ∧ DM p q r s
def RetMC (e : Ending) : Prop := ∃ p q r s c : Int, e = .returned (.tuple #[(.agg #[.int .i64 p, .int .i64 q, .int .i64 r, .int .i64 s]), (.int .i64 c)]) ∧ (c = 0 → DM p q r s)
/-- Three small matrices in a row. -/
def Row3 (w : World) (b : Nat) : Prop := ∀ k : Nat, k < 3 → ∃ p q r s : Int, DM p q r s ∧ w.cell? ⟨b, k * 4, none⟩ = some (.int .i64 p) ∧ w.cell? ⟨b, k * 4 + 1, none⟩ = some (.int .i64 q) ∧ w.cell? ⟨b, k * 4 + 2, none⟩ = some (.int .i64 r) ∧ w.cell? ⟨b, k * 4 + 3, none⟩ = some (.int .i64 s)
theorem Row3.below {w w' : World} {b : Nat} (h : Row3 w b) (hl : b < w.heap.size) (hb : Below w.heap.size w w') : Row3 w' b := fun k hk => by
  obtain ⟨p, q, r, s, he, h0, h1, h2, h3⟩ := h k hk
  exact ⟨p, q, r, s, he, (hb.cell (p := ⟨b, _, none⟩) hl).trans h0, (hb.cell (p := ⟨b, _, none⟩) hl).trans h1, (hb.cell (p := ⟨b, _, none⟩) hl).trans h2, (hb.cell (p := ⟨b, _, none⟩) hl).trans h3⟩
set_option maxRecDepth 1000000 in
set_option maxHeartbeats 2000000 in
theorem l01Product_any (b : Nat) (w : World) (hl : b < w.heap.size) (hr : Row3 w b) :
    Calls Tryz.prog 90 #[.slice (some ⟨b, 0, none⟩) 3 3] w fun e w' => RetMC e ∧ Below w.heap.size w w' := by
  obtain ⟨p0, q0, r0, s0, hem, c0, c1, c2, c3⟩ := hr 0 (by omega)
  have HE := Lib.hid hem
  have HR := Lib.hid hr
  have hne : w.heap.size ≠ b := by omega
  simp only [Nat.zero_mul, Nat.zero_add] at c0 c1 c2 c3
  clear hem hr
  go_enter Tryz.func90, Tryz.ntmps90
  go_wp2_with fail
  go_loopw [5] (fun i wr => ∃ (k : Nat) (p q r s : Int), i = (.int .i64 ((k : Int))) ∧ (1 ≤ k ∧ k ≤ 3) ∧ Hid (DM p q r s ∧ Bm wr (w.heap.size + 1) p q r s ∧ Bm wr w.heap.size 0 0 0 0) ∧ Below w.heap.size w wr) (fun i _ => 3 - (intOf i).toNat)
  case atStart => exact ⟨1, p0, q0, r0, s0, rfl, by omega, Lib.hid ⟨HE.out, by have := Bm.new (w := w.alloc (.cells #[(.int .i64 0), (.int .i64 0), (.int .i64 0), (.int .i64 0)] 94)) (p := p0) (q := q0) (s := r0) (u := s0); simpa using this, Bm.new.alloc _⟩, by go_grown⟩
  case round =>
    clear c0 c1 c2 c3
    obtain ⟨k, p, q, r, s, rfl, hk, HP, hb⟩ := hrel
    obtain ⟨⟨c0, c1, c2, c3⟩, ⟨f0, f1, f2, f3⟩, hl4⟩ := HP.out.2.1.open_
    obtain ⟨⟨z0, z1, z2, z3⟩, ⟨g0, g1, g2, g3⟩, hl2⟩ := HP.out.2.2.open_
    by_cases hk2 : k < 3
    · obtain ⟨p', q', r', s', he', d0, d1, d2, d3⟩ := (HR.out.below hl hb) k hk2
      have hk3 : (k : Int) < 3 := by omega
      have hbw : b < wr.heap.size := Nat.lt_of_lt_of_le hl hb.size
      have HT := Lib.hid (fun W => l01Times_fun p q r s p' q' r' s' W HP.out.1.em he'.em)
      have HM := Lib.hid (timesR_dm HP.out.1 he')
      generalize (timesR ⟨p, q, r, s⟩ ⟨p', q', r', s'⟩).1.p = x at *
      generalize (timesR ⟨p, q, r, s⟩ ⟨p', q', r', s'⟩).1.q = y at *
      generalize (timesR ⟨p, q, r, s⟩ ⟨p', q', r', s'⟩).1.r = z at *
      generalize (timesR ⟨p, q, r, s⟩ ⟨p', q', r', s'⟩).1.s = u at *
      generalize (timesR ⟨p, q, r, s⟩ ⟨p', q', r', s'⟩).2 = ok at *
      clear he'
      go_wp2_with fail
      refine wp_region_ord [(0, false), (1, false), (2, false), (3, false), (4, false), (5, false), (6, false), (7, false), (8, false), (9, true), (10, true), (11, false)] (by kernel_rfl) (by kernel_rfl) ?_
      refine ord_q (o := ?o_1) (v := ?v_1) ?ho_1 ?hw_1 ?hq_1 ?_
      case ho_1 => simp only [List.getElem?_toArray, List.getElem?_cons_zero]; rfl
      case hw_1 => rfl
      case hq_1 =>
        intro W1 hW1
        obtain ⟨hcw, hfw⟩ := bcell hW1
        go_simp
        first | (go_at_call 110; with_reducible exact HT.out _) | rfl
      simp only [Act.put, List.setIfInBounds_toArray, List.set_cons_zero, List.set_cons_succ]
      refine ord_q (o := ?o_2) (v := ?v_2) ?ho_2 ?hw_2 ?hq_2 ?_
      case ho_2 => simp only [List.getElem?_toArray, List.getElem?_cons_succ, List.getElem?_cons_zero]; rfl
      case hw_2 => rfl
      case hq_2 =>
        intro W1 hW1
        obtain ⟨hcw, hfw⟩ := bcell hW1
        go_simp
        first | (go_at_call 110; with_reducible exact HT.out _) | rfl
      simp only [Act.put, List.setIfInBounds_toArray, List.set_cons_zero, List.set_cons_succ]
      refine ord_q (o := ?o_3) (v := ?v_3) ?ho_3 ?hw_3 ?hq_3 ?_
      case ho_3 => simp only [List.getElem?_toArray, List.getElem?_cons_succ, List.getElem?_cons_zero]; rfl
      case hw_3 => rfl
      case hq_3 =>
        intro W1 hW1
        obtain ⟨hcw, hfw⟩ := bcell hW1
        go_simp
        first | (go_at_call 110; with_reducible exact HT.out _) | rfl
      simp only [Act.put, List.setIfInBounds_toArray, List.set_cons_zero, List.set_cons_succ]
      refine ord_q (o := ?o_4) (v := ?v_4) ?ho_4 ?hw_4 ?hq_4 ?_
      case ho_4 => simp only [List.getElem?_toArray, List.getElem?_cons_succ, List.getElem?_cons_zero]; rfl
      case hw_4 => rfl
      case hq_4 =>
        intro W1 hW1
        obtain ⟨hcw, hfw⟩ := bcell hW1
        go_simp
        first | (go_at_call 110; with_reducible exact HT.out _) | rfl
      simp only [Act.put, List.setIfInBounds_toArray, List.set_cons_zero, List.set_cons_succ]
      refine ord_q (o := ?o_5) (v := ?v_5) ?ho_5 ?hw_5 ?hq_5 ?_
      case ho_5 => simp only [List.getElem?_toArray, List.getElem?_cons_succ, List.getElem?_cons_zero]; rfl
      case hw_5 => rfl
      case hq_5 =>
        intro W1 hW1
        obtain ⟨hcw, hfw⟩ := bcell hW1
        go_simp
        first | (go_at_call 110; with_reducible exact HT.out _) | rfl
      simp only [Act.put, List.setIfInBounds_toArray, List.set_cons_zero, List.set_cons_succ]
      refine ord_q (o := ?o_6) (v := ?v_6) ?ho_6 ?hw_6 ?hq_6 ?_
      case ho_6 => simp only [List.getElem?_toArray, List.getElem?_cons_succ, List.getElem?_cons_zero]; rfl
      case hw_6 => rfl
      case hq_6 =>
        intro W1 hW1
        obtain ⟨hcw, hfw⟩ := bcell hW1
        go_simp
        first | (go_at_call 110; with_reducible exact HT.out _) | rfl
      simp only [Act.put, List.setIfInBounds_toArray, List.set_cons_zero, List.set_cons_succ]
      refine ord_q (o := ?o_7) (v := ?v_7) ?ho_7 ?hw_7 ?hq_7 ?_
      case ho_7 => simp only [List.getElem?_toArray, List.getElem?_cons_succ, List.getElem?_cons_zero]; rfl
      case hw_7 => rfl
      case hq_7 =>
        intro W1 hW1
        obtain ⟨hcw, hfw⟩ := bcell hW1
        go_simp
        first | (go_at_call 110; with_reducible exact HT.out _) | rfl
      simp only [Act.put, List.setIfInBounds_toArray, List.set_cons_zero, List.set_cons_succ]
      refine ord_q (o := ?o_8) (v := ?v_8) ?ho_8 ?hw_8 ?hq_8 ?_
      case ho_8 => simp only [List.getElem?_toArray, List.getElem?_cons_succ, List.getElem?_cons_zero]; rfl
      case hw_8 => rfl
      case hq_8 =>
        intro W1 hW1
        obtain ⟨hcw, hfw⟩ := bcell hW1
        go_simp
        first | (go_at_call 110; with_reducible exact HT.out _) | rfl
      simp only [Act.put, List.setIfInBounds_toArray, List.set_cons_zero, List.set_cons_succ]
      refine ord_q (o := ?o_9) (v := ?v_9) ?ho_9 ?hw_9 ?hq_9 ?_
      case ho_9 => simp only [List.getElem?_toArray, List.getElem?_cons_succ, List.getElem?_cons_zero]; rfl
      case hw_9 => rfl
      case hq_9 =>
        intro W1 hW1
        obtain ⟨hcw, hfw⟩ := bcell hW1
        go_simp
        first | (go_at_call 110; with_reducible exact HT.out _) | rfl
      simp only [Act.put, List.setIfInBounds_toArray, List.set_cons_zero, List.set_cons_succ]
      refine ord_alloc (o := ?o_10) (z := #[.int .i64 0, .int .i64 0, .int .i64 0, .int .i64 0]) (t := 94) (Nat.le_refl _) ?ho_10 ?hw_10 ?hr_10 (fun b1_0 hb1_0 hdb1_0 => ?_)
      case ho_10 => simp only [List.getElem?_toArray, List.getElem?_cons_succ, List.getElem?_cons_zero]; rfl
      case hw_10 => rfl
      case hr_10 => intro W1; go_simp
      simp only [Act.put, List.setIfInBounds_toArray, List.set_cons_zero, List.set_cons_succ]
      refine ord_store4 (o := ?o_11) (b := b1_0) (u0 := .int .i64 0) (u1 := .int .i64 0) (u2 := .int .i64 0) (u3 := .int .i64 0) (t := 94) (.int .i64 (x)) (.int .i64 (y)) (.int .i64 (z)) (.int .i64 (u)) ?ho_11 ?hw_11 hb1_0 (by simp) ?hr_11 ?_
      case ho_11 => simp only [List.getElem?_toArray, List.getElem?_cons_succ, List.getElem?_cons_zero]; rfl
      case hw_11 => rfl
      case hr_11 =>
        intro W1 hcs hfs
        obtain ⟨hs0, hs1, hs2, hs3⟩ := hcs
        have hg0 := hfs 0
        have hg1 := hfs 1
        have hg2 := hfs 2
        have hg3 := hfs 3
        go_simp
      simp only [Act.put]
      refine ord_q (o := ?o_12) (v := ?v_12) ?ho_12 ?hw_12 ?hq_12 ?_
      case ho_12 => simp only [List.getElem?_toArray, List.getElem?_cons_succ, List.getElem?_cons_zero]; rfl
      case hw_12 => rfl
      case hq_12 =>
        intro W1 hW1
        obtain ⟨hcw, hfw⟩ := bcell hW1
        go_simp
        first | (go_at_call 110; with_reducible exact HT.out _) | rfl
      simp only [Act.put, List.setIfInBounds_toArray, List.set_cons_zero, List.set_cons_succ]
      intro w1 hw1
      have hb1 := hw1.below
      obtain ⟨hBb1_0, hhb1_0⟩ := hw1.blk (b1_0, #[.int .i64 (x), .int .i64 (y), .int .i64 (z), .int .i64 (u)], 94) (by simp [putBlk])
      have hzb1_0 := lt_of_blk hhb1_0
      have qb1_0_0 : w1.cell? ⟨b1_0, 0, none⟩ = some (.int .i64 (x)) := cell_of_blk hhb1_0 0
      have rb1_0_0 : w1.frozen? ⟨b1_0, 0, none⟩ = false := frozen_of_blk hhb1_0 0
      have qb1_0_1 : w1.cell? ⟨b1_0, 1, none⟩ = some (.int .i64 (y)) := cell_of_blk hhb1_0 1
      have rb1_0_1 : w1.frozen? ⟨b1_0, 1, none⟩ = false := frozen_of_blk hhb1_0 1
      have qb1_0_2 : w1.cell? ⟨b1_0, 2, none⟩ = some (.int .i64 (z)) := cell_of_blk hhb1_0 2
      have rb1_0_2 : w1.frozen? ⟨b1_0, 2, none⟩ = false := frozen_of_blk hhb1_0 2
      have qb1_0_3 : w1.cell? ⟨b1_0, 3, none⟩ = some (.int .i64 (u)) := cell_of_blk hhb1_0 3
      have rb1_0_3 : w1.frozen? ⟨b1_0, 3, none⟩ = false := frozen_of_blk hhb1_0 3
      clear hhb1_0
      clear hw1
      obtain ⟨hc1, hf1⟩ := bcell hb1
      have BM := Lib.hid (HP.out.2.1.below hb1)
      have BZ := Lib.hid (HP.out.2.2.below hb1)
      have HB1 := Lib.hid (hb.trans (hb1.mono hb.size))
      clear hc1 hf1 hb1 HP c0 c1 c2 c3 f0 f1 f2 f3 z0 z1 z2 z3 g0 g1 g2 g3 hl4 hl2 d0 d1 d2 d3
      obtain ⟨⟨c0, c1, c2, c3⟩, ⟨f0, f1, f2, f3⟩, hl4⟩ := BM.out.open_
      obtain ⟨⟨z0, z1, z2, z3⟩, ⟨g0, g1, g2, g3⟩, hl2⟩ := BZ.out.open_
      have hn4 : w.heap.size + 1 ≠ w.heap.size := by omega
      cases ok
      · go_wp2_with fail
        refine bodyPost_ret (v := .tuple #[(.agg #[.int .i64 0, .int .i64 0, .int .i64 0, .int .i64 0]), (.int .i64 3)]) (by simp [results, Tryz.results90, go_sem, set4_0 BZ.out, set4_1 BZ.out, set4_2 BZ.out, set4_3 BZ.out] <;> rfl) rfl ?_
        exact ⟨⟨0, 0, 0, 0, 3, rfl, fun h => by cases h⟩, below_set4 HB1.out (Nat.le_refl _)⟩
      · go_wp2_with fail
        go_roundw
        case rel => exact ⟨k + 1, x, y, z, u, by go_num, by omega, Lib.hid ⟨HM.out rfl, heap_set4 BM.out, BZ.out.far _ _ _ _ (Ne.symm hn4)⟩, below_set4 HB1.out (by omega)⟩
        case measure => simp [intOf]; omega
    · obtain rfl : k = 3 := by omega
      have BZ := Lib.hid HP.out.2.2
      have HM := Lib.hid HP.out.1
      clear HP
      go_wp2_with fail
      refine bodyPost_ret (v := .tuple #[(.agg #[.int .i64 p, .int .i64 q, .int .i64 r, .int .i64 s]), (.int .i64 0)]) (by simp [results, Tryz.results90, go_sem, set4_0 BZ.out, set4_1 BZ.out, set4_2 BZ.out, set4_3 BZ.out] <;> rfl) rfl ?_
      exact ⟨⟨_, _, _, _, _, rfl, fun _ => HM.out⟩, below_set4 hb (Nat.le_refl _)⟩
/-- What is known in the middle of a word: the product so far, the result's cells, the names, the source. -/
structure Word (n b : Nat) (w w' : World) (p q r s : Int) : Prop where
  em : DM p q r s
  out : Bm w' (w.heap.size + 2) p q r s
  res : Bm w' w.heap.size 0 0 0 0
  nam : NB w' (w.heap.size + 1)
  src : InS n b w w'
theorem Word.turn {n b : Nat} {w w' w2 : World} {p q r s : Int} (h : Word n b w w' p q r s) (hs : Src w2 n b) (hg : w'.grownBy w2 (some b)) : Word n b w w2 p q r s :=
  ⟨h.em, h.out.turn h.src (by omega) hg, h.res.turn h.src (Nat.le_refl _) hg, h.nam.turn h.src (by omega) hg, h.src.turn hs hg⟩
theorem Word.below {n b : Nat} {w w' w2 : World} {p q r s : Int} (h : Word n b w w' p q r s) (hb : Below w'.heap.size w' w2) : Word n b w w2 p q r s :=
  ⟨h.em, h.out.below hb, h.res.below hb, h.nam.below hb, h.src.below hb⟩
theorem Word.alloc {n b : Nat} {w w' : World} {p q r s : Int} (h : Word n b w w' p q r s) (o : Obj) : Word n b w (w'.alloc o) p q r s := h.below ((Below.refl _ _).alloc (Nat.le_refl _) o)
theorem Word.far {n b g : Nat} {w w' : World} {p q r s : Int} (h : Word n b w w' p q r s) (x y z t : Value) (hg : w.heap.size + 2 < g) :
    Word n b w ((((w'.setCell ⟨g, 0, none⟩ x).setCell ⟨g, 1, none⟩ y).setCell ⟨g, 2, none⟩ z).setCell ⟨g, 3, none⟩ t) p q r s :=
  ⟨h.em, h.out.far _ _ _ _ (by omega), h.res.far _ _ _ _ (by omega), h.nam.far _ _ _ _ (by omega), h.src.set4 _ _ _ _ (by omega)⟩
theorem Word.set {n b : Nat} {w w' : World} {p q r s : Int} (h : Word n b w w' p q r s) {x y z t : Int} (he : DM x y z t) :
    Word n b w ((((w'.setCell ⟨w.heap.size + 2, 0, none⟩ (.int .i64 x)).setCell ⟨w.heap.size + 2, 1, none⟩ (.int .i64 y)).setCell ⟨w.heap.size + 2, 2, none⟩ (.int .i64 z)).setCell ⟨w.heap.size + 2, 3, none⟩ (.int .i64 t)) x y z t :=
  ⟨he, h.out.set _ _ _ _, h.res.far _ _ _ _ (by omega), h.nam.far _ _ _ _ (by omega), h.src.set4 _ _ _ _ (by omega)⟩
set_option maxRecDepth 1000000 in
set_option maxHeartbeats 8000000 in
theorem l01DrawWord_any (n b : Nat) (m : Int) (w : World) (hm : 0 ≤ m ∧ m ≤ 1000) (hs : Src w n b) :
    Calls Tryz.prog 89 #[.pointer (some ⟨b, 0, none⟩), (.int .i64 m)] w fun e w' => RetM e ∧ Src w' n b ∧ w.grownBy w' (some b) := by
  have I0 := Lib.hid (InS.start hs)
  clear hs
  go_enter Tryz.func89, Tryz.ntmps89
  go_wp2_with fail
  go_loopw [1] (fun x wr => ∃ (j : Nat) (p q r s : Int), x = (.int .i64 ((j : Int))) ∧ j ≤ 1000 ∧ Hid (Word n b w wr p q r s)) (fun x _ => (intOf x).toNat)
  case atStart =>
    exact ⟨m.toNat, 1, 0, 0, 1, by congr 1; omega, by omega, Lib.hid ⟨DM.one, Bm.newE (by simp), (Bm.new.alloc _).alloc _, (show NB _ _ from heap_alloc (heap_new' (by simp))), ((I0.out.alloc _).alloc _).alloc _⟩⟩
  case round =>
    obtain ⟨j, p, q, r, s, rfl, hj, WH⟩ := hrel
    clear I0 hm
    by_cases hj0 : 0 < j
    · have hj0' : (0 : Int) < (j : Int) := by omega
      go_wp2_with fail
      refine (l01Next_any n b 6 _ (by omega) WH.out.src.src).mono ?_; rintro e w2 ⟨x, rfl, hx, hs2, hg2⟩
      have W2 := Lib.hid (WH.out.turn hs2 hg2)
      clear WH hs2 hg2
      obtain ⟨xn, rfl⟩ := Int.eq_ofNat_of_zero_le hx.1
      have hx6 : xn < 6 := by omega
      have hx6' : (xn : Int) < 6 := by omega
      obtain ⟨st, hst, hin⟩ := W2.out.nam.at hx6
      have HIN := Lib.hid hin
      clear hin hx
      go_wp2_with fail
      refine (l01Named_any st _ HIN.out).mono ?_; rintro e w3 ⟨⟨a0, a1, a2, a3, rfl, hm⟩, hb3⟩
      have HM := Lib.hid (show DM a0 a1 a2 a3 from ⟨⟨⟨hm.a0, hm.a1⟩, ⟨hm.b0, hm.b1⟩, ⟨hm.c0, hm.c1⟩, ⟨hm.d0, hm.d1⟩⟩, hm.det⟩)
      have W3 := Lib.hid (W2.out.below hb3)
      have hg3 : w.heap.size + 2 < w3.heap.size := W3.out.out.lt
      clear hm hb3 W2 hst HIN
      have W3' := Lib.hid (W3.out.alloc (.cells #[(.int .i64 a0), (.int .i64 a1), (.int .i64 a2), (.int .i64 a3)] 94))
      have M3 := Lib.hid (Bm.new (w := w3) (p := a0) (q := a1) (s := a2) (u := a3))
      clear W3
      go_wp2_with fail
      generalize w3.heap.size = g at *
      refine (l01Next_any n b 3 _ (by omega) W3'.out.src.src).mono ?_; rintro e w4 ⟨v, rfl, -, hs4, hg4⟩
      have W4 := Lib.hid (W3'.out.turn hs4 hg4)
      have M4' := Lib.hid (M3.out.turn W3'.out.src (by omega) hg4)
      clear W3' M3 hs4 hg4
      by_cases hv : v = 0
      · have hv' : (v == 0) = true := by simpa using hv
        obtain ⟨⟨c0, c1, c2, c3⟩, -, hl4⟩ := M4'.out.open_
        clear hv
        go_wp2_with fail
        refine (l01Inverse_any a0 a1 a2 a3 _ HM.out.em).mono ?_; rintro e w5 ⟨rfl, hb5⟩
        have W5 := Lib.hid (W4.out.below hb5)
        have M5 := Lib.hid (M4'.out.below hb5)
        clear W4 M4' hb5 c0 c1 c2 c3 hl4
        obtain ⟨⟨c0, c1, c2, c3⟩, ⟨f0, f1, f2, f3⟩, hl4⟩ := M5.out.open_
        have W6 := Lib.hid (W5.out.far (.int .i64 a3) (.int .i64 (-a1)) (.int .i64 (-a2)) (.int .i64 a0) hg3)
        have M6 := Lib.hid (M5.out.set a3 (-a1) (-a2) a0)
        have HE := Lib.hid HM.out.inv
        go_wp2_with fail
        clear c0 c1 c2 c3 f0 f1 f2 f3 hl4 W5 M5
        with_reducible refine (pick_lit_g [1, 1, 1, 2, 3] (by simp [ints]) W6.out.src.src (by simp) (by simp) (by simp) (by simp)).mono ?_
        rintro e w7 ⟨kk, rfl, hkk, hs7, hg7⟩
        have hkk2 : 1 ≤ kk ∧ kk ≤ 3 := by simp at hkk; omega
        have W7 := Lib.hid (W6.out.turn hs7 hg7)
        have M7 := Lib.hid (M6.out.turn W6.out.src (by omega) hg7)
        clear hs7 hg7 hkk W6 M6
        go_wp2_with fail
        go_loopw [9] (fun y wr => ∃ (i : Nat) (p q r s : Int), y = (.int .i64 ((i : Int))) ∧ i ≤ 3 ∧ Hid (Word n b w wr p q r s) ∧ Hid (Bm wr g a3 (-a1) (-a2) a0)) (fun y _ => (intOf y).toNat)
        case atStart => exact ⟨kk.toNat, p, q, r, s, by congr 1; omega, by omega, W7, M7⟩
        case round =>
          clear W7 M7
          obtain ⟨i, p1, q1, r1, s1, rfl, hi, WI, MI⟩ := hrel
          by_cases hi0 : 0 < i
          · have hi0' : (0 : Int) < (i : Int) := by omega
            obtain ⟨⟨c0, c1, c2, c3⟩, ⟨f0, f1, f2, f3⟩, hl4⟩ := WI.out.out.open_
            obtain ⟨⟨d0, d1, d2, d3⟩, -, hl9⟩ := MI.out.open_
            go_wp2_with fail
            refine (l01Times_dm p1 q1 r1 s1 a3 (-a1) (-a2) a0 _ WI.out.em HE.out).mono ?_; rintro e w8 ⟨⟨x, y, z, u, ok, rfl, hx⟩, hb8⟩
            have HX := Lib.hid hx
            have W8 := Lib.hid (WI.out.below hb8)
            have M8 := Lib.hid (MI.out.below hb8)
            clear hb8 hx c0 c1 c2 c3 f0 f1 f2 f3 hl4 d0 d1 d2 d3 hl9 WI MI
            obtain ⟨⟨c0, c1, c2, c3⟩, ⟨f0, f1, f2, f3⟩, hl4⟩ := W8.out.out.open_
            cases ok
            · go_wp2_with fail
              go_roundw
              case rel => exact ⟨i - 1, p1, q1, r1, s1, by congr 1; omega, by omega, Lib.hid (W8.out.alloc _), Lib.hid (M8.out.alloc _)⟩
              case measure => simp [intOf]; omega
            · go_wp2_with fail
              go_roundw
              case rel => exact ⟨i - 1, x, y, z, u, by congr 1; omega, by omega, Lib.hid ((W8.out.set (HX.out trivial)).alloc _), Lib.hid ((M8.out.far _ _ _ _ (by omega)).alloc _)⟩
              case measure => simp [intOf]; omega
          · obtain rfl : i = 0 := by omega
            clear MI
            go_wp2_with fail
            go_roundw
            case rel => exact ⟨j - 1, p1, q1, r1, s1, by congr 1; omega, by omega, WI⟩
            case measure => simp [intOf]; omega
      · have hv' : (v == 0) = false := by simpa using hv
        clear hv
        go_wp2_with fail
        with_reducible refine (pick_lit_g [1, 1, 1, 2, 3] (by simp [ints]) W4.out.src.src (by simp) (by simp) (by simp) (by simp)).mono ?_
        rintro e w7 ⟨kk, rfl, hkk, hs7, hg7⟩
        have hkk2 : 1 ≤ kk ∧ kk ≤ 3 := by simp at hkk; omega
        have W7 := Lib.hid (W4.out.turn hs7 hg7)
        have M7 := Lib.hid (M4'.out.turn W4.out.src (by omega) hg7)
        clear hs7 hg7 hkk W4 M4'
        go_wp2_with fail
        go_loopw [9] (fun y wr => ∃ (i : Nat) (p q r s : Int), y = (.int .i64 ((i : Int))) ∧ i ≤ 3 ∧ Hid (Word n b w wr p q r s) ∧ Hid (Bm wr g a0 a1 a2 a3)) (fun y _ => (intOf y).toNat)
        case atStart => exact ⟨kk.toNat, p, q, r, s, by congr 1; omega, by omega, W7, M7⟩
        case round =>
          clear W7 M7
          obtain ⟨i, p1, q1, r1, s1, rfl, hi, WI, MI⟩ := hrel
          by_cases hi0 : 0 < i
          · have hi0' : (0 : Int) < (i : Int) := by omega
            obtain ⟨⟨c0, c1, c2, c3⟩, ⟨f0, f1, f2, f3⟩, hl4⟩ := WI.out.out.open_
            obtain ⟨⟨d0, d1, d2, d3⟩, -, hl9⟩ := MI.out.open_
            go_wp2_with fail
            refine (l01Times_dm p1 q1 r1 s1 a0 a1 a2 a3 _ WI.out.em HM.out).mono ?_; rintro e w8 ⟨⟨x, y, z, u, ok, rfl, hx⟩, hb8⟩
            have HX := Lib.hid hx
            have W8 := Lib.hid (WI.out.below hb8)
            have M8 := Lib.hid (MI.out.below hb8)
            clear hb8 hx c0 c1 c2 c3 f0 f1 f2 f3 hl4 d0 d1 d2 d3 hl9 WI MI
            obtain ⟨⟨c0, c1, c2, c3⟩, ⟨f0, f1, f2, f3⟩, hl4⟩ := W8.out.out.open_
            cases ok
            · go_wp2_with fail
              go_roundw
              case rel => exact ⟨i - 1, p1, q1, r1, s1, by congr 1; omega, by omega, Lib.hid (W8.out.alloc _), Lib.hid (M8.out.alloc _)⟩
              case measure => simp [intOf]; omega
            · go_wp2_with fail
              go_roundw
              case rel => exact ⟨i - 1, x, y, z, u, by congr 1; omega, by omega, Lib.hid ((W8.out.set (HX.out trivial)).alloc _), Lib.hid ((M8.out.far _ _ _ _ (by omega)).alloc _)⟩
              case measure => simp [intOf]; omega
          · obtain rfl : i = 0 := by omega
            clear MI
            go_wp2_with fail
            go_roundw
            case rel => exact ⟨j - 1, p1, q1, r1, s1, by congr 1; omega, by omega, WI⟩
            case measure => simp [intOf]; omega
    · obtain rfl : j = 0 := by omega
      obtain ⟨⟨c0, c1, c2, c3⟩, ⟨f0, f1, f2, f3⟩, hl4⟩ := WH.out.out.open_
      obtain ⟨⟨d0, d1, d2, d3⟩, ⟨i0, i1, i2, i3⟩, hl0⟩ := WH.out.res.open_
      go_wp2_with fail
      refine bodyPost_ret (v := (.agg #[.int .i64 p, .int .i64 q, .int .i64 r, .int .i64 s])) (by simp [results, Tryz.results89, go_sem, set4_0 WH.out.res, set4_1 WH.out.res, set4_2 WH.out.res, set4_3 WH.out.res] <;> rfl) rfl ?_
      have IF := WH.out.src.set4 (r := w.heap.size) (.int .i64 p) (.int .i64 q) (.int .i64 r) (.int .i64 s) (Nat.le_refl _)
      exact ⟨⟨_, _, _, _, rfl, WH.out.em⟩, IF.src, IF.grown⟩
theorem l01Small_any (n b : Nat) (w : World) (hs : Src w n b) :
    Calls Tryz.prog 95 #[.pointer (some ⟨b, 0, none⟩)] w fun e w' => RetM e ∧ Src w' n b ∧ w.grownBy w' (some b) := by
  have I0 := Lib.hid ((InS.start hs).alloc (.cells #[(.int .i64 0), (.int .i64 0), (.int .i64 0), (.int .i64 0)] 94))
  clear hs
  go_enter Tryz.func95, Tryz.ntmps95
  go_wp2_with fail
  refine (l01Next_any n b 4 _ (by omega) I0.out.src).mono ?_; rintro e w1 ⟨z, rfl, hz, hs1, hg1⟩
  have I1 := Lib.hid (I0.out.turn hs1 hg1)
  have B1 := Lib.hid ((Bm.new (w := w) (p := 0) (q := 0) (s := 0) (u := 0)).turn I0.out (Nat.le_refl _) hg1)
  clear hs1 hg1 I0
  go_wp2_with fail
  refine (l01DrawWord_any n b z _ (by omega) I1.out.src).mono ?_; rintro e w2 ⟨⟨p, q, r, s, rfl, hem⟩, hs2, hg2⟩
  have I2 := Lib.hid (I1.out.turn hs2 hg2)
  have B2 := Lib.hid (B1.out.turn I1.out (Nat.le_refl _) hg2)
  have HE := Lib.hid hem
  clear hs2 hg2 I1 B1 hem hz
  obtain ⟨⟨c0, c1, c2, c3⟩, ⟨f0, f1, f2, f3⟩, hl3⟩ := B2.out.open_
  go_wp2_with fail
  refine bodyPost_ret (v := (.agg #[.int .i64 p, .int .i64 q, .int .i64 r, .int .i64 s])) (by simp [results, Tryz.results95, go_sem, set4_0 B2.out, set4_1 B2.out, set4_2 B2.out, set4_3 B2.out] <;> rfl) rfl ?_
  have IF := I2.out.set4 (.int .i64 p) (.int .i64 q) (.int .i64 r) (.int .i64 s) (Nat.le_refl w.heap.size)
  exact ⟨⟨_, _, _, _, rfl, HE.out⟩, IF.src, IF.grown⟩
theorem row3_of {w : World} {b : Nat} {t : TypeId} {a0 a1 a2 a3 b0 b1 b2 b3 c0 c1 c2 c3 : Int} (h : w.heap[b]? = some (.cells #[(.int .i64 a0), (.int .i64 a1), (.int .i64 a2), (.int .i64 a3), (.int .i64 b0), (.int .i64 b1), (.int .i64 b2), (.int .i64 b3), (.int .i64 c0), (.int .i64 c1), (.int .i64 c2), (.int .i64 c3)] t (0, 0)))
    (ha : DM a0 a1 a2 a3) (hb : DM b0 b1 b2 b3) (hc : DM c0 c1 c2 c3) : Row3 w b := fun k hk => by
  rcases (show k = 0 ∨ k = 1 ∨ k = 2 by omega) with rfl | rfl | rfl
  · exact ⟨_, _, _, _, ha, cell_of_blk h 0, cell_of_blk h 1, cell_of_blk h 2, cell_of_blk h 3⟩
  · exact ⟨_, _, _, _, hb, cell_of_blk h 4, cell_of_blk h 5, cell_of_blk h 6, cell_of_blk h 7⟩
  · exact ⟨_, _, _, _, hc, cell_of_blk h 8, cell_of_blk h 9, cell_of_blk h 10, cell_of_blk h 11⟩
section
variable {B : Nat} {w0 w w' : World} {t : TypeId} {o o' : Obj} {a0 a1 a2 a3 b0 b1 b2 b3 c0 c1 c2 c3 : Int}
theorem row3A (ha : DM a0 a1 a2 a3) (hb : DM b0 b1 b2 b3) (hc : DM c0 c1 c2 c3) : Row3 (w.alloc (.cells #[(.int .i64 a0), (.int .i64 a1), (.int .i64 a2), (.int .i64 a3), (.int .i64 b0), (.int .i64 b1), (.int .i64 b2), (.int .i64 b3), (.int .i64 c0), (.int .i64 c1), (.int .i64 c2), (.int .i64 c3)] t)) w.heap.size := row3_of heap_new ha hb hc
theorem row3Ad (ha : DM a0 a1 a2 a3) (hb : DM b0 b1 b2 b3) (hc : DM c0 c1 c2 c3) : Row3 (w.alloc (.cells #[(.int .i64 a0), (.int .i64 a1), (.int .i64 a2), (.int .i64 a3), (.int .i64 b0), (.int .i64 b1), (.int .i64 b2), (.int .i64 b3), (.int .i64 c0), (.int .i64 c1), (.int .i64 c2), (.int .i64 c3)] t)).drew w.heap.size := row3A ha hb hc
theorem row3B (ha : DM a0 a1 a2 a3) (hb : DM b0 b1 b2 b3) (hc : DM c0 c1 c2 c3) : Row3 ((w.alloc (.cells #[(.int .i64 0), (.int .i64 0), (.int .i64 0), (.int .i64 0)] 94)).alloc (.cells #[(.int .i64 a0), (.int .i64 a1), (.int .i64 a2), (.int .i64 a3), (.int .i64 b0), (.int .i64 b1), (.int .i64 b2), (.int .i64 b3), (.int .i64 c0), (.int .i64 c1), (.int .i64 c2), (.int .i64 c3)] t)) (w.heap.size + 1) := row3_of (heap_new' (by simp)) ha hb hc
theorem row3Bd (ha : DM a0 a1 a2 a3) (hb : DM b0 b1 b2 b3) (hc : DM c0 c1 c2 c3) : Row3 ((w.alloc (.cells #[(.int .i64 0), (.int .i64 0), (.int .i64 0), (.int .i64 0)] 94)).alloc (.cells #[(.int .i64 a0), (.int .i64 a1), (.int .i64 a2), (.int .i64 a3), (.int .i64 b0), (.int .i64 b1), (.int .i64 b2), (.int .i64 b3), (.int .i64 c0), (.int .i64 c1), (.int .i64 c2), (.int .i64 c3)] t)).drew (w.heap.size + 1) := row3B ha hb hc
theorem row3C (ha : DM a0 a1 a2 a3) (hb : DM b0 b1 b2 b3) (hc : DM c0 c1 c2 c3) : Row3 ((w.alloc (.cells #[(.int .i64 a0), (.int .i64 a1), (.int .i64 a2), (.int .i64 a3), (.int .i64 b0), (.int .i64 b1), (.int .i64 b2), (.int .i64 b3), (.int .i64 c0), (.int .i64 c1), (.int .i64 c2), (.int .i64 c3)] t)).alloc (.cells #[(.int .i64 0), (.int .i64 0), (.int .i64 0), (.int .i64 0)] 94)) w.heap.size := row3_of (heap_alloc heap_new) ha hb hc
theorem row3Cd (ha : DM a0 a1 a2 a3) (hb : DM b0 b1 b2 b3) (hc : DM c0 c1 c2 c3) : Row3 ((w.alloc (.cells #[(.int .i64 a0), (.int .i64 a1), (.int .i64 a2), (.int .i64 a3), (.int .i64 b0), (.int .i64 b1), (.int .i64 b2), (.int .i64 b3), (.int .i64 c0), (.int .i64 c1), (.int .i64 c2), (.int .i64 c3)] t)).alloc (.cells #[(.int .i64 0), (.int .i64 0), (.int .i64 0), (.int .i64 0)] 94)).drew w.heap.size := row3C ha hb hc
end
set_option maxRecDepth 1000000 in
set_option maxHeartbeats 8000000 in
theorem l01Draw_any (n b : Nat) (w : World) (hs : Src w n b) :
    Calls Tryz.prog 81 #[.pointer (some ⟨b, 0, none⟩)] w fun e w' => RetM e ∧ Src w' n b ∧ w.grownBy w' (some b) := by
  have I0 := Lib.hid ((InS.start hs).alloc (.cells #[(.int .i64 0), (.int .i64 0), (.int .i64 0), (.int .i64 0)] 94))
  clear hs
  go_enter Tryz.func81, Tryz.ntmps81
  go_wp2_with fail
  refine (l01Next_any n b 6 _ (by omega) I0.out.src).mono ?_; rintro e w1 ⟨z, rfl, -, hs1, hg1⟩
  have I1 := Lib.hid (I0.out.turn hs1 hg1)
  have B1 := Lib.hid ((Bm.new (w := w) (p := 0) (q := 0) (s := 0) (u := 0)).turn I0.out (Nat.le_refl _) hg1)
  clear hs1 hg1 I0
  by_cases hz0 : z = 0
  · subst hz0
    go_wp2_with fail
    refine (l01Next_any n b 20 _ (by omega) I1.out.src).mono ?_; rintro e w2 ⟨x, rfl, hx, hs2, hg2⟩
    have I2 := Lib.hid (I1.out.turn hs2 hg2)
    have B2 := Lib.hid (B1.out.turn I1.out (Nat.le_refl _) hg2)
    clear hs2 hg2 I1 B1
    go_wp2_with fail
    refine (l01DrawWord_any n b x _ (by omega) I2.out.src).mono ?_; rintro e w3 ⟨⟨p, q, r, s, rfl, hem⟩, hs3, hg3⟩
    have I3 := Lib.hid (I2.out.turn hs3 hg3)
    have B3 := Lib.hid (B2.out.turn I2.out (Nat.le_refl _) hg3)
    have HE := Lib.hid hem
    clear hs3 hg3 I2 B2 hem hx
    obtain ⟨⟨c0, c1, c2, c3⟩, ⟨f0, f1, f2, f3⟩, hl3⟩ := B3.out.open_
    go_wp2_with fail
    refine bodyPost_ret (v := (.agg #[.int .i64 p, .int .i64 q, .int .i64 r, .int .i64 s])) (by simp [results, Tryz.results81, go_sem, set4_0 B3.out, set4_1 B3.out, set4_2 B3.out, set4_3 B3.out] <;> rfl) rfl ?_
    have IF := I3.out.set4 (.int .i64 p) (.int .i64 q) (.int .i64 r) (.int .i64 s) (Nat.le_refl w.heap.size)
    exact ⟨⟨_, _, _, _, rfl, HE.out⟩, IF.src, IF.grown⟩
  · have hz0' : (z == 0) = false := by simpa using hz0
    by_cases hz1 : z = 1
    · subst hz1
      go_wp2_with fail
      refine (l01Next_any n b 1000 _ (by omega) I1.out.src).mono ?_; rintro e w2 ⟨x, rfl, hx, hs2, hg2⟩
      have I2 := Lib.hid (I1.out.turn hs2 hg2)
      have B2 := Lib.hid (B1.out.turn I1.out (Nat.le_refl _) hg2)
      have hx2 : 0 ≤ x ∧ x < 1000 := by omega
      clear hs2 hg2 I1 B1 hx
      obtain ⟨⟨c0, c1, c2, c3⟩, ⟨f0, f1, f2, f3⟩, hl3⟩ := B2.out.open_
      go_wp2_with fail
      refine bodyPost_ret (v := (.agg #[.int .i64 1, .int .i64 (x - 500), .int .i64 0, .int .i64 1])) (by simp [results, Tryz.results81, go_sem, set4_0 B2.out, set4_1 B2.out, set4_2 B2.out, set4_3 B2.out] <;> rfl) rfl ?_
      have IF := I2.out.set4 (.int .i64 1) (.int .i64 (x - 500)) (.int .i64 0) (.int .i64 1) (Nat.le_refl w.heap.size)
      exact ⟨⟨_, _, _, _, rfl, ⟨⟨by omega, by omega, by omega, by omega⟩, by omega⟩⟩, IF.src, IF.grown⟩
    · have hz1' : (z == 1) = false := by simpa using hz1
      by_cases hz2 : z = 2
      · subst hz2
        go_wp2_with fail
        refine (l01Next_any n b 2 _ (by omega) I1.out.src).mono ?_; rintro e w2 ⟨x, rfl, hx, hs2, hg2⟩
        have I2 := Lib.hid (I1.out.turn hs2 hg2)
        have B2 := Lib.hid (B1.out.turn I1.out (Nat.le_refl _) hg2)
        clear hs2 hg2 I1 B1
        have hx2 : 0 ≤ x ∧ x < 2 := by omega
        clear hx
        go_wp2_with fail
        refine (l01DrawWord_any n b (1 + x) _ (by omega) I2.out.src).mono ?_; rintro e w3 ⟨⟨p, q, r, s, rfl, hem⟩, hs3, hg3⟩
        have I3 := Lib.hid (I2.out.turn hs3 hg3)
        have B3 := Lib.hid (B2.out.turn I2.out (Nat.le_refl _) hg3)
        have HE := Lib.hid hem
        clear hs3 hg3 I2 B2 hem
        go_wp2_with fail
        refine (l01Next_any n b 4 _ (by omega) I3.out.src).mono ?_; rintro e w4 ⟨y, rfl, hy, hs4, hg4⟩
        have I4 := Lib.hid (I3.out.turn hs4 hg4)
        have B4 := Lib.hid (B3.out.turn I3.out (Nat.le_refl _) hg4)
        clear hs4 hg4 I3 B3
        have hy2 : 0 ≤ y ∧ y < 4 := by omega
        clear hy
        go_wp2_with fail
        refine (l01DrawWord_any n b y _ (by omega) I4.out.src).mono ?_; rintro e w5 ⟨⟨p', q', r', s', rfl, hem⟩, hs5, hg5⟩
        have I5 := Lib.hid (((I4.out.turn hs5 hg5).alloc (.cells #[(.int .i64 p), (.int .i64 q), (.int .i64 r), (.int .i64 s)] 94)).alloc (.cells #[(.int .i64 p'), (.int .i64 q'), (.int .i64 r'), (.int .i64 s')] 94))
        have B5' := B4.out.turn I4.out (Nat.le_refl _) hg5
        have hz5 : w.heap.size < w5.heap.size := B5'.lt
        have B5 := Lib.hid ((B5'.alloc (.cells #[(.int .i64 p), (.int .i64 q), (.int .i64 r), (.int .i64 s)] 94)).alloc (.cells #[(.int .i64 p'), (.int .i64 q'), (.int .i64 r'), (.int .i64 s')] 94))
        have M3 := Lib.hid ((Bm.new (w := w5) (p := p) (q := q) (s := r) (u := s)).alloc (.cells #[(.int .i64 p'), (.int .i64 q'), (.int .i64 r'), (.int .i64 s')] 94))
        have M4 := Lib.hid (Bm.newE (g := w5.heap.size + 1) (w := w5.alloc (.cells #[(.int .i64 p), (.int .i64 q), (.int .i64 r), (.int .i64 s)] 94)) (p := p') (q := q') (s := r') (u := s') (by simp))
        have HE2 := Lib.hid hem
        clear B5' hs5 hg5 I4 B4 hem
        go_upto_region 8 with (fail)
        generalize (w5.alloc (.cells #[(.int .i64 p), (.int .i64 q), (.int .i64 r), (.int .i64 s)] 94)).alloc (.cells #[(.int .i64 p'), (.int .i64 q'), (.int .i64 r'), (.int .i64 s')] 94) = W at *
        generalize w5.heap.size = g at *
        have kW := Lib.hid (C8.of M3.out M4.out)
        have hEN := Lib.hid HE2.out.inv
        have hgW : g + 1 < W.heap.size := M4.out.lt
        go_cut [5, 6] from 34 to 42 (fun s5 s6 wx => ∃ (g5 : Nat) (x1 x2 x3 x4 c : Int), s5 = .pointer (some ⟨g5, 0, none⟩) ∧ s6 = (.int .i64 c) ∧ Hid (c = 0 → DM x1 x2 x3 x4) ∧ Hid (Bm wx g5 x1 x2 x3 x4) ∧ Hid (Bm wx w.heap.size 0 0 0 0) ∧ Hid (Bm wx g p q r s) ∧ Hid (InS n b w wx))
        case first =>
         go_region_held3 (fun w' => (w'.cell? ⟨g, 0, none⟩ = some (.int .i64 p) ∧ w'.cell? ⟨g, 1, none⟩ = some (.int .i64 q) ∧ w'.cell? ⟨g, 2, none⟩ = some (.int .i64 r) ∧ w'.cell? ⟨g, 3, none⟩ = some (.int .i64 s)) ∧ (w'.cell? ⟨g + 1, 0, none⟩ = some (.int .i64 p') ∧ w'.cell? ⟨g + 1, 1, none⟩ = some (.int .i64 q') ∧ w'.cell? ⟨g + 1, 2, none⟩ = some (.int .i64 r') ∧ w'.cell? ⟨g + 1, 3, none⟩ = some (.int .i64 s'))) (first | with_reducible exact k7.out | with_reducible exact k6.out | with_reducible exact kW.out | with_reducible exact keep8 N3.out N4.out ((Below.refl _ _).alloc (Nat.le_refl _) _) | with_reducible exact keep8s N3.out N4.out (by omega) (by omega) | with_reducible exact keep8 L3.out L4.out ((Below.refl _ _).alloc (Nat.le_refl _) _) | with_reducible exact keep8 L3.out L4.out ((Below.refl _ _).alloc (Nat.le_refl _) _).drew | with_reducible exact keep8 L3.out L4.out (((Below.refl _ _).alloc (Nat.le_refl _) _).alloc (by simp) _) | with_reducible exact keep8 L3.out L4.out (((Below.refl _ _).alloc (Nat.le_refl _) _).alloc (by simp) _).drew | with_reducible exact keep8 M3.out M4.out ((Below.refl _ _).alloc (Nat.le_refl _) _) | with_reducible exact keep8 M3.out M4.out ((Below.refl _ _).alloc (Nat.le_refl _) _).drew | with_reducible exact keep8 M3.out M4.out (Below.refl _ _).drew) (first | (go_at_call 91; refine (l01Inverse_any p' q' r' s' _ HE2.out.em).mono ?_; rintro e w6 ⟨rfl, hb6⟩; have T6 := Lib.hid (show Below W.heap.size W w6 by first | with_reducible exact hb6 | with_reducible exact wayAd (Below.refl _ _) (Nat.le_refl _) hb6 | with_reducible exact wayB (Below.refl _ _) (Nat.le_refl _) hb6 | with_reducible exact wayBd (Below.refl _ _) (Nat.le_refl _) hb6); have L3 := Lib.hid (M3.out.below T6.out); have L4 := Lib.hid (M4.out.below T6.out); have k6 := Lib.hid (C8.of L3.out L4.out); have hs6 : W.heap.size ≤ w6.heap.size := T6.out.size; (first | (with_reducible have z6 := Lib.hid (zW hb6)) | (with_reducible have z6 := Lib.hid (zWd hb6)) | skip); clear hb6) | (go_at_call 90; refine (l01Product_any _ _ (by simp <;> omega) (by first | with_reducible exact row3A HE2.out HE.out hEN.out | with_reducible exact row3Ad HE2.out HE.out hEN.out | with_reducible exact row3B HE2.out HE.out hEN.out | with_reducible exact row3Bd HE2.out HE.out hEN.out | with_reducible exact row3C HE2.out HE.out hEN.out | with_reducible exact row3Cd HE2.out HE.out hEN.out)).mono ?_; rintro e w7 ⟨⟨x1, x2, x3, x4, c, rfl, hx⟩, hb7⟩; have HX := Lib.hid hx; have T7 := Lib.hid (show Below W.heap.size W w7 by first | with_reducible exact wayB T6.out (Nat.le_refl _) hb7 | with_reducible exact wayBd T6.out (Nat.le_refl _) hb7 | with_reducible exact wayC T6.out (Nat.le_refl _) hb7 | with_reducible exact wayCd T6.out (Nat.le_refl _) hb7); have N3 := Lib.hid (M3.out.below T7.out); have N4 := Lib.hid (M4.out.below T7.out); have k7 := Lib.hid (C8.of N3.out N4.out); (first | ((with_reducible have z7 := Lib.hid (zD z6.out hb7)); have y7 := Blk4.open_ z7.out; obtain ⟨⟨c70, c71, c72, c73⟩, ⟨f70, f71, f72, f73⟩, hl7⟩ := y7) | ((with_reducible have z7 := Lib.hid (zDd z6.out hb7)); have y7 := Blk4.open_ z7.out; obtain ⟨⟨c70, c71, c72, c73⟩, ⟨f70, f71, f72, f73⟩, hl7⟩ := y7) | ((with_reducible have z7 := Lib.hid (zB hb7)); have y7 := Blk4.open_ z7.out; obtain ⟨⟨c70, c71, c72, c73⟩, ⟨f70, f71, f72, f73⟩, hl7⟩ := y7) | ((with_reducible have z7 := Lib.hid (zBd hb7)); have y7 := Blk4.open_ z7.out; obtain ⟨⟨c70, c71, c72, c73⟩, ⟨f70, f71, f72, f73⟩, hl7⟩ := y7) | ((with_reducible have z7 := Lib.hid (zC hb7)); have y7 := Blk4.open_ z7.out; obtain ⟨⟨c70, c71, c72, c73⟩, ⟨f70, f71, f72, f73⟩, hl7⟩ := y7) | ((with_reducible have z7 := Lib.hid (zCd hb7)); have y7 := Blk4.open_ z7.out; obtain ⟨⟨c70, c71, c72, c73⟩, ⟨f70, f71, f72, f73⟩, hl7⟩ := y7) | skip); clear hb7 hx))
         all_goals
          have B7 := Lib.hid (B5.out.below T7.out)
          have I7 := Lib.hid (I5.out.below T7.out)
          have hs7 : W.heap.size ≤ w7.heap.size := T7.out.size
          have hq1 : w.heap.size ≠ W.heap.size := by omega
          have hq2 : w.heap.size ≠ w6.heap.size := by omega
          have hq3 : w.heap.size ≠ w6.heap.size + 1 := by omega
          have hr1 : w.heap.size ≤ W.heap.size := by omega
          have hr2 : w.heap.size ≤ w6.heap.size := by omega
          have hr3 : w.heap.size ≤ w6.heap.size + 1 := by omega
          have hp1 : g ≠ W.heap.size := by omega
          have hp2 : g ≠ w6.heap.size := by omega
          have hp3 : g ≠ w6.heap.size + 1 := by omega
          go_wp2_with fail
          go_meet
          first
            | with_reducible exact ⟨w7.heap.size, x1, x2, x3, x4, c, rfl, rfl, HX, Lib.hid Bm.new, Lib.hid (B7.out.alloc _), Lib.hid (N3.out.alloc _), Lib.hid (I7.out.alloc _)⟩
            | with_reducible exact ⟨W.heap.size, x1, x2, x3, x4, c, rfl, rfl, HX, Lib.hid (z7.out.set x1 x2 x3 x4), Lib.hid (B7.out.far _ _ _ _ hq1), Lib.hid (N3.out.far _ _ _ _ hp1), Lib.hid (I7.out.set4 _ _ _ _ hr1)⟩
            | with_reducible exact ⟨w6.heap.size, x1, x2, x3, x4, c, rfl, rfl, HX, Lib.hid (z7.out.set x1 x2 x3 x4), Lib.hid (B7.out.far _ _ _ _ hq2), Lib.hid (N3.out.far _ _ _ _ hp2), Lib.hid (I7.out.set4 _ _ _ _ hr2)⟩
            | with_reducible exact ⟨w6.heap.size + 1, x1, x2, x3, x4, c, rfl, rfl, HX, Lib.hid (z7.out.set x1 x2 x3 x4), Lib.hid (B7.out.far _ _ _ _ hq3), Lib.hid (N3.out.far _ _ _ _ hp3), Lib.hid (I7.out.set4 _ _ _ _ hr3)⟩
        case rest =>
          obtain ⟨g5, x1, x2, x3, x4, c, rfl, rfl, HX, N5, B7, N3, I7⟩ := hcut
          clear kW hEN hgW B5 M3 M4 I5
          obtain ⟨⟨z0, z1, z2, z3⟩, ⟨i0, i1, i2, i3⟩, hlz⟩ := B7.out.open_
          obtain ⟨⟨n0, n1, n2, n3⟩, -, hln⟩ := N3.out.open_
          obtain ⟨⟨m0, m1, m2, m3⟩, -, hlm⟩ := N5.out.open_
          by_cases hc : c = 0
          · have hc' : (c == 0) = true := by simpa using hc
            go_wp2_with fail
            refine bodyPost_ret (v := (.agg #[.int .i64 x1, .int .i64 x2, .int .i64 x3, .int .i64 x4])) (by simp [results, Tryz.results81, go_sem, set4_0 B7.out, set4_1 B7.out, set4_2 B7.out, set4_3 B7.out] <;> rfl) rfl ?_
            have IF := I7.out.set4 (.int .i64 x1) (.int .i64 x2) (.int .i64 x3) (.int .i64 x4) (Nat.le_refl w.heap.size)
            exact ⟨⟨_, _, _, _, rfl, HX.out hc⟩, IF.src, IF.grown⟩
          · have hc' : (c == 0) = false := by simpa using hc
            go_wp2_with fail
            refine bodyPost_ret (v := (.agg #[.int .i64 p, .int .i64 q, .int .i64 r, .int .i64 s])) (by simp [results, Tryz.results81, go_sem, set4_0 B7.out, set4_1 B7.out, set4_2 B7.out, set4_3 B7.out] <;> rfl) rfl ?_
            have IF := I7.out.set4 (.int .i64 p) (.int .i64 q) (.int .i64 r) (.int .i64 s) (Nat.le_refl w.heap.size)
            exact ⟨⟨_, _, _, _, rfl, HE.out⟩, IF.src, IF.grown⟩
      · have hz2' : (z == 2) = false := by simpa using hz2
        by_cases hz3 : z = 3
        · subst hz3
          go_wp2_with fail
          refine (l01DrawWord_any n b 2 _ (by omega) I1.out.src).mono ?_; rintro e w2 ⟨⟨p, q, r, s, rfl, hem⟩, hs2, hg2⟩
          have I2 := Lib.hid (I1.out.turn hs2 hg2)
          have B2 := Lib.hid (B1.out.turn I1.out (Nat.le_refl _) hg2)
          have HE := Lib.hid hem
          clear hs2 hg2 I1 B1 hem
          go_wp2_with fail
          refine (l01Next_any n b 8 _ (by omega) I2.out.src).mono ?_; rintro e w3 ⟨x, rfl, hx, hs3, hg3⟩
          have I3 := Lib.hid (I2.out.turn hs3 hg3)
          have B3 := Lib.hid (B2.out.turn I2.out (Nat.le_refl _) hg3)
          clear hs3 hg3 I2 B2
          go_wp2_with fail
          refine (l01Power_any p q r s x _ HE.out.em (by omega)).mono ?_; rintro e w4 ⟨⟨p', q', r', s', k, rfl, hem⟩, hb4⟩
          have I4 := Lib.hid ((I3.out.below hb4).alloc (.cells #[(.int .i64 p'), (.int .i64 q'), (.int .i64 r'), (.int .i64 s')] 94))
          have B4 := Lib.hid ((B3.out.below hb4).alloc (.cells #[(.int .i64 p'), (.int .i64 q'), (.int .i64 r'), (.int .i64 s')] 94))
          have M4 := Lib.hid (Bm.new (w := w4) (p := p') (q := q') (s := r') (u := s'))
          have HE2 := Lib.hid hem
          have hz4 : w.heap.size < w4.heap.size := (B3.out.below hb4).lt
          clear hb4 I3 B3 hem HE hx
          go_wp2_with fail
          refine (l01Is_any p' q' r' s' _).mono ?_; rintro e w5 ⟨rfl, hb5⟩
          have I5 := Lib.hid (I4.out.below hb5)
          have B5 := Lib.hid (B4.out.below hb5)
          have M5 := Lib.hid (M4.out.below hb5)
          clear hb5 I4 B4 M4
          generalize w4.heap.size = g at *
          cases him : isMat p' q' r' s'
          · clear him
            go_wp2_with fail
            refine (l01Neg_em 1 0 0 1 _ EM.one).mono ?_; rintro e w6 ⟨rfl, hb6⟩
            have I6 := Lib.hid (I5.out.below hb6)
            have B6 := Lib.hid (B5.out.below hb6)
            clear hb6 I5 B5 M5
            obtain ⟨⟨c0, c1, c2, c3⟩, ⟨f0, f1, f2, f3⟩, hl3⟩ := B6.out.open_
            go_wp2_with fail
            refine bodyPost_ret (v := (.agg #[.int .i64 (-1), .int .i64 0, .int .i64 0, .int .i64 (-1)])) (by simp [results, Tryz.results81, go_sem, set4_0 B6.out, set4_1 B6.out, set4_2 B6.out, set4_3 B6.out] <;> rfl) rfl ?_
            have IF := I6.out.set4 (.int .i64 (-1)) (.int .i64 0) (.int .i64 0) (.int .i64 (-1)) (Nat.le_refl w.heap.size)
            exact ⟨⟨_, _, _, _, rfl, ⟨⟨by omega, by omega, by omega, by omega⟩, by omega⟩⟩, IF.src, IF.grown⟩
          · replace HE2 := Lib.hid (DM.of him)
            clear him
            obtain ⟨⟨c0, c1, c2, c3⟩, ⟨f0, f1, f2, f3⟩, hl3⟩ := B5.out.open_
            obtain ⟨⟨d0, d1, d2, d3⟩, ⟨g0, g1, g2, g3⟩, hl4⟩ := M5.out.open_
            go_wp2_with fail
            refine bodyPost_ret (v := (.agg #[.int .i64 p', .int .i64 q', .int .i64 r', .int .i64 s'])) (by simp [results, Tryz.results81, go_sem, set4_0 B5.out, set4_1 B5.out, set4_2 B5.out, set4_3 B5.out] <;> rfl) rfl ?_
            have IF := I5.out.set4 (.int .i64 p') (.int .i64 q') (.int .i64 r') (.int .i64 s') (Nat.le_refl w.heap.size)
            exact ⟨⟨_, _, _, _, rfl, HE2.out⟩, IF.src, IF.grown⟩
        · have hz3' : (z == 3) = false := by simpa using hz3
          go_wp2_with fail
          refine (l01Small_any n b _ I1.out.src).mono ?_; rintro e w2 ⟨⟨p, q, r, s, rfl, hem⟩, hs2, hg2⟩
          have I2 := Lib.hid (I1.out.turn hs2 hg2)
          have B2 := Lib.hid (B1.out.turn I1.out (Nat.le_refl _) hg2)
          have HE := Lib.hid hem
          clear hs2 hg2 I1 B1 hem
          obtain ⟨⟨c0, c1, c2, c3⟩, ⟨f0, f1, f2, f3⟩, hl3⟩ := B2.out.open_
          go_wp2_with fail
          refine bodyPost_ret (v := (.agg #[.int .i64 p, .int .i64 q, .int .i64 r, .int .i64 s])) (by simp [results, Tryz.results81, go_sem, set4_0 B2.out, set4_1 B2.out, set4_2 B2.out, set4_3 B2.out] <;> rfl) rfl ?_
          have IF := I2.out.set4 (.int .i64 p) (.int .i64 q) (.int .i64 r) (.int .i64 s) (Nat.le_refl w.heap.size)
          exact ⟨⟨_, _, _, _, rfl, HE.out⟩, IF.src, IF.grown⟩
end Go.Proofs.YtjnkogkpdbgohaaGreatDoor.Dm
