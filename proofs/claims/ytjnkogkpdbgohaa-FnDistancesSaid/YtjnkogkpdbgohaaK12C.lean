/- Draws: pairs of fractions for the law of distances. -/
import Derived.Test.YtjnkogkpdbgohaaK12B
namespace Go.Proofs.Ytjnkogkpdbgohaa
open Go.RowKit
def RetFr (e : Ending) : Prop := ∃ p q : Int, e = .returned (.agg #[.int .i64 p, .int .i64 q])
theorem DrawConvergentsOf_any (a : Option Addr) (len cap : Nat) (w : World) (hl : len ≤ 1152921504606846976) (hb : Bytes w w.heap.size a len) :
    Calls Try.prog 5 #[.slice a len cap] w fun e w' => RetFr e ∧ Below w.heap.size w w' := by
  have hA : Below w.heap.size w (w.alloc (.cells #[(.int .i64 0), (.int .i64 0)] 25)) := (Below.refl _ w).alloc (Nat.le_refl _) _
  have HF := Lib.hid (l03Any_any a len cap _ hl (hb.after hA))
  have HA := Lib.hid hA
  clear hb hA
  go_enter Try.func5, Try.ntmps5
  go_wp2_with fail
  refine (HF.out).mono ?_; rintro e w1 ⟨⟨p, q, rfl, -⟩, hb1⟩
  have HB := Lib.hid (bfin HA.out hb1)
  have B := Lib.hid ((Bf.new (w := w) (p := 0) (q := 0)).below hb1)
  clear HF HA hb1
  obtain ⟨⟨c0, c1⟩, ⟨f0, f1⟩, hl3⟩ := Blk2.open_ B.out
  go_wp2_with fail
  refine bodyPost_ret (v := (.agg #[.int .i64 p, .int .i64 q])) (by simp [results, Try.results5, go_sem, set2_0 B.out, set2_1 B.out] <;> rfl) rfl ?_
  exact ⟨⟨_, _, rfl⟩, below_set2 HB.out (Nat.le_refl _)⟩
set_option maxRecDepth 1000000 in
set_option maxHeartbeats 4000000 in
theorem DrawMatrixOfNeighbours_any (a : Option Addr) (len cap : Nat) (w : World) (hl : len ≤ 1152921504606846976) (hb : Bytes w w.heap.size a len) :
    Calls Try.prog 18 #[.slice a len cap] w fun e w' => RetFrs e ∧ Below w.heap.size w w' := by
  have hA : Below w.heap.size w ((w.alloc (.cells #[(.int .i64 0), (.int .i64 0)] 25)).alloc (.cells #[(.int .i64 0), (.int .i64 0)] 25)) := ((Below.refl _ w).alloc (Nat.le_refl _) _).alloc (by simp) _
  have HF := Lib.hid (l03Pair_any a len cap _ hl (hb.after hA))
  have HA := Lib.hid hA
  clear hb hA
  go_enter Try.func18, Try.ntmps18
  go_wp2_with fail
  refine (HF.out).mono ?_; rintro e w1 ⟨⟨p, q, r, s, rfl⟩, hb1⟩
  have HB1 := Lib.hid (bfin HA.out hb1)
  have B1 := Lib.hid (((Bf.new (w := w) (p := 0) (q := 0)).alloc (.cells #[(.int .i64 0), (.int .i64 0)] 25)).below hb1)
  have C1 := Lib.hid ((Bf.newE (g := w.heap.size + 1) (w := w.alloc (.cells #[(.int .i64 0), (.int .i64 0)] 25)) (p := 0) (q := 0) (by simp)).below hb1)
  clear HF HA hb1
  have HWG := Lib.hid C1.out.lt
  have M := Lib.hid ((Bf.new (w := w1) (p := p) (q := q)).alloc (.cells #[(.int .i64 r), (.int .i64 s)] 25))
  have N := Lib.hid (Bf.newE (g := w1.heap.size + 1) (w := w1.alloc (.cells #[(.int .i64 p), (.int .i64 q)] 25)) (p := r) (q := s) (by simp))
  replace B1 := Lib.hid ((B1.out.alloc (.cells #[(.int .i64 p), (.int .i64 q)] 25)).alloc (.cells #[(.int .i64 r), (.int .i64 s)] 25))
  replace C1 := Lib.hid ((C1.out.alloc (.cells #[(.int .i64 p), (.int .i64 q)] 25)).alloc (.cells #[(.int .i64 r), (.int .i64 s)] 25))
  have HB2 := Lib.hid ((HB1.out.alloc HB1.out.size (.cells #[(.int .i64 p), (.int .i64 q)] 25)).alloc (by have := HB1.out.size; simp; omega) (.cells #[(.int .i64 r), (.int .i64 s)] 25))
  go_upto_region 2 with (fail)
  generalize (w1.alloc (.cells #[(.int .i64 p), (.int .i64 q)] 25)).alloc (.cells #[(.int .i64 r), (.int .i64 s)] 25) = W at *
  generalize w1.heap.size = g at *
  obtain ⟨⟨b0, b1⟩, ⟨x0, x1⟩, hlb⟩ := Blk2.open_ B1.out
  obtain ⟨⟨c0, c1⟩, ⟨y0, y1⟩, hlc⟩ := Blk2.open_ C1.out
  have hlN := N.out.lt
  have hwg : w.heap.size + 1 < g := by have := HWG.out; omega
  have kW := Lib.hid (C22.of M.out N.out)
  have hq1 : g ≠ w.heap.size := by omega
  have hq2 : g + 1 ≠ w.heap.size := by omega
  have hq3 : g ≠ w.heap.size + 1 := by omega
  have hq4 : g + 1 ≠ w.heap.size + 1 := by omega
  have hne1 : w.heap.size ≠ w.heap.size + 1 := by omega
  have hne2 : w.heap.size + 1 ≠ w.heap.size := by omega
  have F2 := (B1.out.set p q).far (.int .i64 r) (.int .i64 s) hne1
  have F3 := (C1.out.far (.int .i64 p) (.int .i64 q) hne2).set r s
  have HS := Lib.hid (Blk2.open_ F2)
  have HT := Lib.hid (Blk2.open_ F3)
  have HF := Lib.hid (below_set2 (x := (.int .i64 r)) (y := (.int .i64 s)) (r := w.heap.size + 1) (below_set2 (x := (.int .i64 p)) (y := (.int .i64 q)) (r := w.heap.size) HB2.out (Nat.le_refl _)) (Nat.le_succ _))
  clear F2 F3
  go_region_held3 (fun w' => (w'.cell? ⟨g, 0, none⟩ = some (.int .i64 p) ∧ w'.cell? ⟨g, 1, none⟩ = some (.int .i64 q)) ∧ (w'.cell? ⟨g + 1, 0, none⟩ = some (.int .i64 r) ∧ w'.cell? ⟨g + 1, 1, none⟩ = some (.int .i64 s))) (first | with_reducible exact kW.out | with_reducible exact kW.out.drew | with_reducible exact C22.of (M.out.far _ _ hq1) (N.out.far _ _ hq2) | with_reducible exact (C22.of (M.out.far _ _ hq1) (N.out.far _ _ hq2)).drew | with_reducible exact C22.of (M.out.far _ _ hq3) (N.out.far _ _ hq4) | with_reducible exact (C22.of (M.out.far _ _ hq3) (N.out.far _ _ hq4)).drew | with_reducible exact C22.of ((M.out.far _ _ hq1).far _ _ hq3) ((N.out.far _ _ hq2).far _ _ hq4) | with_reducible exact (C22.of ((M.out.far _ _ hq1).far _ _ hq3) ((N.out.far _ _ hq2).far _ _ hq4)).drew | with_reducible exact C22.of ((M.out.far _ _ hq3).far _ _ hq1) ((N.out.far _ _ hq4).far _ _ hq2) | with_reducible exact (C22.of ((M.out.far _ _ hq3).far _ _ hq1) ((N.out.far _ _ hq4).far _ _ hq2)).drew | go_keep) (fail)
  all_goals
    obtain ⟨⟨s0, s1⟩, -, -⟩ := HS.out
    obtain ⟨⟨t0, t1⟩, -, -⟩ := HT.out
    go_wp2_with fail
    refine bodyPost_ret (v := .tuple #[(.agg #[.int .i64 p, .int .i64 q]), (.agg #[.int .i64 r, .int .i64 s])]) (by simp [results, Try.results18, go_sem, s0, s1, t0, t1] <;> rfl) rfl ?_
    first
      | exact ⟨⟨_, _, _, _, rfl⟩, HF.out⟩
      | exact ⟨⟨_, _, _, _, rfl⟩, ⟨HF.out.os, HF.out.tape, HF.out.output, HF.out.size, HF.out.block⟩⟩
set_option maxRecDepth 1000000 in
set_option maxHeartbeats 8000000 in
theorem DrawDistanceOf_any (a : Option Addr) (len cap : Nat) (w : World) (hl : len ≤ 1152921504606846976) (hb : Bytes w w.heap.size a len) :
    Calls Try.prog 14 #[.slice a len cap] w fun e w' => RetFrs e ∧ Below w.heap.size w w' := by
  have hA : Below w.heap.size w ((w.alloc (.cells #[(.int .i64 0), (.int .i64 0)] 25)).alloc (.cells #[(.int .i64 0), (.int .i64 0)] 25)) := ((Below.refl _ w).alloc (Nat.le_refl _) _).alloc (by simp) _
  have HF := Lib.hid (l01From_any a len cap _ hl (hb.after hA))
  have HA := Lib.hid hA
  clear hb hA
  go_enter Try.func14, Try.ntmps14
  go_wp2_with fail
  refine (HF.out).mono ?_; rintro e w1 ⟨b, rfl, hs1, hb1⟩
  have HB1 := Lib.hid (bfin HA.out hb1)
  have B1 := Lib.hid (((Bf.new (w := w) (p := 0) (q := 0)).alloc (.cells #[(.int .i64 0), (.int .i64 0)] 25)).below hb1)
  have C1 := Lib.hid ((Bf.newE (g := w.heap.size + 1) (w := w.alloc (.cells #[(.int .i64 0), (.int .i64 0)] 25)) (p := 0) (q := 0) (by simp)).below hb1)
  have I := Lib.hid (InS.start hs1)
  have hbn : w.heap.size + 2 ≤ b := by have := hs1.ge; simpa using this
  have hbw : b < w1.heap.size := hs1.lt
  generalize hnn : ((w.alloc (.cells #[(.int .i64 0), (.int .i64 0)] 25)).alloc (.cells #[(.int .i64 0), (.int .i64 0)] 25)).heap.size = n at *
  clear HF HA hs1 hb1 hnn
  go_wp2_with fail
  refine (l01Next_any n b 201 _ (by omega) I.out.src).mono ?_; rintro e w2 ⟨x, rfl, hx, hs, hg⟩
  replace I := Lib.hid (I.out.turn hs hg)
  clear hs hg
  have hx2 : 0 ≤ x ∧ x < 201 := by omega
  clear hx
  go_wp2_with fail
  refine (l01Next_any n b 60 _ (by omega) I.out.src).mono ?_; rintro e w3 ⟨y, rfl, hy, hs, hg⟩
  replace I := Lib.hid (I.out.turn hs hg)
  clear hs hg
  have hy2 : 0 ≤ y ∧ y < 60 := by omega
  clear hy
  go_wp2_with fail
  refine (l01Reduced_bd (x - 100) (1 + y) _ (by omega) (by omega) (by omega) (by omega)).mono ?_; rintro e w4 ⟨⟨p, q, rfl, hpq⟩, hb⟩
  replace I := Lib.hid (I.out.below hb)
  clear hb
  have HW1 := Lib.hid hpq.w
  clear hpq hx2 hy2
  have hg5 : w1.heap.size ≤ w4.heap.size := I.out.size
  have M := Lib.hid (Bf.new (w := w4) (p := p) (q := q))
  replace I := Lib.hid (I.out.alloc (.cells #[(.int .i64 p), (.int .i64 q)] 25))
  go_upto_region 3 with (fail)
  generalize w4.alloc (.cells #[(.int .i64 p), (.int .i64 q)] 25) = W at *
  generalize w4.heap.size = g at *
  go_wp2_with fail
  refine (l01Next_any n b 201 _ (by omega) I.out.src).mono ?_; rintro e w5 ⟨x, rfl, hx, hs, hg⟩
  replace M := Lib.hid (M.out.turn I.out (hg5) hg)
  replace I := Lib.hid (I.out.turn hs hg)
  clear hs hg
  have hx2 : 0 ≤ x ∧ x < 201 := by omega
  clear hx
  go_wp2_with fail
  refine (l01Next_any n b 200 _ (by omega) I.out.src).mono ?_; rintro e w6 ⟨y, rfl, hy, hs, hg⟩
  replace M := Lib.hid (M.out.turn I.out (hg5) hg)
  replace I := Lib.hid (I.out.turn hs hg)
  clear hs hg
  have hy2 : 0 ≤ y ∧ y < 200 := by omega
  clear hy
  go_wp2_with fail
  refine (l01Reduced_bd (x - 100) (1 + y) _ (by omega) (by omega) (by omega) (by omega)).mono ?_; rintro e w7 ⟨⟨r, s, rfl, hrs⟩, hb⟩
  replace M := Lib.hid (M.out.below hb)
  replace I := Lib.hid (I.out.below hb)
  clear hb
  have HX := Lib.hid (And.intro HW1.out hrs.w)
  clear hrs HW1 hx2 hy2
  have hgo : g < w7.heap.size := M.out.lt
  have N := Lib.hid (Bf.new (w := w7) (p := r) (q := s))
  replace M := Lib.hid (M.out.alloc (.cells #[(.int .i64 r), (.int .i64 s)] 25))
  replace I := Lib.hid (I.out.alloc (.cells #[(.int .i64 r), (.int .i64 s)] 25))
  go_upto_region 4 with (fail)
  generalize w7.alloc (.cells #[(.int .i64 r), (.int .i64 s)] 25) = W2 at *
  generalize w7.heap.size = g2 at *
  have hg6 : w1.heap.size ≤ g2 := by omega
  have hww : w.heap.size ≤ w1.heap.size := HB1.out.size
  have hgg : g ≠ g2 := by omega
  have hgg' : g2 ≠ g := by omega
  go_wp2_with fail
  refine (l01Next_any n b 6 _ (by omega) I.out.src).mono ?_; rintro e w8 ⟨u, rfl, -, hs, hg⟩
  replace M := Lib.hid (M.out.turn I.out (hg5) hg)
  replace N := Lib.hid (N.out.turn I.out (hg6) hg)
  replace I := Lib.hid (I.out.turn hs hg)
  clear hs hg
  generalize hB : (u == 0) = B
  go_upto_if 25 with (fail)
  clear hB
  go_cut [] from 26 to 26 (fun wx => ∃ p q : Int, Hid (WFrac p q ∧ WFrac r s) ∧ Hid (Bf wx g p q) ∧ Hid (Bf wx g2 r s) ∧ Hid (InS n b w1 wx))
  case first =>
    cases B
    · go_wp2_with fail
      go_meet
      exact ⟨p, q, HX, M, N, I⟩
    · obtain ⟨⟨x0, x1⟩, ⟨y0, y1⟩, hlx⟩ := Blk2.open_ M.out
      go_wp2_with fail
      go_meet
      exact ⟨1, 0, Lib.hid ⟨by unfold WFrac; omega, HX.out.2⟩, Lib.hid (M.out.set 1 0), Lib.hid (N.out.far _ _ hgg'), Lib.hid (I.out.set2 _ _ hg5)⟩
  case rest =>
    clear HX M N I
    obtain ⟨p, q, HX, M, N, I⟩ := hcut
    go_wp2_with fail
    refine (l01Next_any n b 10 _ (by omega) I.out.src).mono ?_; rintro e w9 ⟨v, rfl, -, hs, hg⟩
    replace M := Lib.hid (M.out.turn I.out (hg5) hg)
    replace N := Lib.hid (N.out.turn I.out (hg6) hg)
    replace I := Lib.hid (I.out.turn hs hg)
    clear hs hg
    by_cases hv0 : v = 0
    · subst hv0
      go_wp2_with fail
      refine (l01DrawFraction_any n b _ I.out.src).mono ?_; rintro e w10 ⟨⟨p1, q1, rfl, hpq⟩, hs, hg⟩
      replace M := Lib.hid (M.out.turn I.out (hg5) hg)
      replace N := Lib.hid (N.out.turn I.out (hg6) hg)
      replace I := Lib.hid (I.out.turn hs hg)
      clear hs hg
      replace HX := Lib.hid (And.intro hpq.w HX.out.2)
      clear hpq
      obtain ⟨⟨x0, x1⟩, ⟨y0, y1⟩, hlx⟩ := Blk2.open_ M.out
      replace M := Lib.hid (M.out.set p1 q1)
      replace N := Lib.hid (N.out.far (.int .i64 p1) (.int .i64 q1) hgg')
      replace I := Lib.hid (I.out.set2 (.int .i64 p1) (.int .i64 q1) hg5)
      go_upto_region 11 with (fail)
      clear x0 x1 y0 y1 hlx
      generalize (w10.setCell ⟨g, 0, none⟩ (.int .i64 p1)).setCell ⟨g, 1, none⟩ (.int .i64 q1) = W6 at *
      have hlN := N.out.lt
      have kW := Lib.hid (C22.of M.out N.out)
      have hwg : w.heap.size + 1 < g := by have := B1.out.lt; have := C1.out.lt; omega
      have hq1 : g ≠ w.heap.size := by omega
      have hq2 : g2 ≠ w.heap.size := by omega
      have hq3 : g ≠ w.heap.size + 1 := by omega
      have hq4 : g2 ≠ w.heap.size + 1 := by omega
      have HV1 := Lib.hid HX.out.1
      have hB9 : w.heap.size ≠ b := by omega
      have hC9 : w.heap.size + 1 ≠ b := by omega
      have HV2 := Lib.hid HX.out.2
      clear HX
      go_region_held3 (fun w' => (w'.cell? ⟨g, 0, none⟩ = some (.int .i64 p1) ∧ w'.cell? ⟨g, 1, none⟩ = some (.int .i64 q1)) ∧ (w'.cell? ⟨g2, 0, none⟩ = some (.int .i64 r) ∧ w'.cell? ⟨g2, 1, none⟩ = some (.int .i64 s))) (first | with_reducible exact k5.out | with_reducible exact k4.out | with_reducible exact kW.out | with_reducible exact kW.out.drew | with_reducible exact k4.out.drew | with_reducible exact k5.out.drew | with_reducible exact C22.of (X5.out.far _ _ hq1) (Y5.out.far _ _ hq2) | with_reducible exact C22.of ((X5.out.far _ _ hq1).far _ _ hq3) ((Y5.out.far _ _ hq2).far _ _ hq4) | go_keep) (first | (go_at_call 39; (first | ((with_reducible refine (l01BadFraction_wide n b p1 q1 _ HV1.out I.out.src).mono ?_); rintro e w4 ⟨⟨a0, a1, rfl, -⟩, hs4, hg4⟩; have hg4x := Lib.hid hg4; clear hg4) | ((with_reducible refine (l01BadFraction_wide n b p1 q1 _ HV1.out I.out.drew.src).mono ?_); rintro e w4 ⟨⟨a0, a1, rfl, -⟩, hs4, hg4⟩; have hg4x := Lib.hid (undrewG hg4); clear hg4)); have I4 := Lib.hid (I.out.turn hs4 hg4x.out); have X4 := Lib.hid (M.out.turn I.out hg5 hg4x.out); have Y4 := Lib.hid (N.out.turn I.out hg6 hg4x.out); have k4 := Lib.hid (C22.of X4.out Y4.out); clear hs4 hg4x) | (go_at_call 39; (first | ((with_reducible refine (l01BadFraction_wide n b r s _ HV2.out I4.out.src).mono ?_); rintro e w5 ⟨⟨c0, c1, rfl, -⟩, hs5, hg5'⟩; have hg5x := Lib.hid hg5'; clear hg5') | ((with_reducible refine (l01BadFraction_wide n b r s _ HV2.out I4.out.drew.src).mono ?_); rintro e w5 ⟨⟨c0, c1, rfl, -⟩, hs5, hg5'⟩; have hg5x := Lib.hid (undrewG hg5'); clear hg5')); have I5 := Lib.hid (I4.out.turn hs5 hg5x.out); have X5 := Lib.hid (X4.out.turn I4.out hg5 hg5x.out); have Y5 := Lib.hid (Y4.out.turn I4.out hg6 hg5x.out); have k5 := Lib.hid (C22.of X5.out Y5.out); have B5 := Lib.hid (B1.out.grown I5.out hB9); have C5 := Lib.hid (C1.out.grown I5.out hC9); have y5 := Blk2.open_ B5.out; obtain ⟨⟨d0, d1⟩, ⟨e0, e1⟩, hl5⟩ := y5; have y6 := Blk2.open_ C5.out; obtain ⟨⟨m0, m1⟩, ⟨n0, n1⟩, hl6⟩ := y6; clear hs5 hg5x))
      all_goals
        have hne1 : w.heap.size ≠ w.heap.size + 1 := by omega
        have hne2 : w.heap.size + 1 ≠ w.heap.size := by omega
        have F2 := (B5.out.set a0 a1).far (.int .i64 c0) (.int .i64 c1) hne1
        have F3 := (C5.out.far (.int .i64 a0) (.int .i64 a1) hne2).set c0 c1
        obtain ⟨⟨s0, s1⟩, -, -⟩ := Blk2.open_ F2
        obtain ⟨⟨t0, t1⟩, -, -⟩ := Blk2.open_ F3
        have HF := Lib.hid (below_set2 (x := (.int .i64 c0)) (y := (.int .i64 c1)) (r := w.heap.size + 1) (below_set2 (x := (.int .i64 a0)) (y := (.int .i64 a1)) (r := w.heap.size) (HB1.out.trans (I5.out.belowN (m := w.heap.size) (by omega))) (Nat.le_refl _)) (Nat.le_succ _))
        clear F2 F3
        go_wp2_with fail
        refine bodyPost_ret (v := .tuple #[(.agg #[.int .i64 a0, .int .i64 a1]), (.agg #[.int .i64 c0, .int .i64 c1])]) (by simp [results, Try.results14, go_sem, s0, s1, t0, t1] <;> rfl) rfl ?_
        exact ⟨⟨_, _, _, _, rfl⟩, HF.out⟩
    · have hv0' : (v == 0) = false := by simpa using hv0
      clear hv0
      by_cases hv1 : v = 1
      · subst hv1
        obtain ⟨⟨z0, z1⟩, -, hlz⟩ := Blk2.open_ M.out
        obtain ⟨⟨x0, x1⟩, ⟨y0, y1⟩, hlx⟩ := Blk2.open_ N.out
        replace M := Lib.hid (M.out.far (.int .i64 p) (.int .i64 q) hgg)
        replace N := Lib.hid (N.out.set p q)
        replace I := Lib.hid (I.out.set2 (.int .i64 p) (.int .i64 q) hg6)
        replace HX := Lib.hid (And.intro HX.out.1 HX.out.1)
        go_upto_region 11 with (fail)
        clear x0 x1 y0 y1 hlx z0 z1 hlz
        generalize (w9.setCell ⟨g2, 0, none⟩ (.int .i64 p)).setCell ⟨g2, 1, none⟩ (.int .i64 q) = W6 at *
        have hlN := N.out.lt
        have kW := Lib.hid (C22.of M.out N.out)
        have hwg : w.heap.size + 1 < g := by have := B1.out.lt; have := C1.out.lt; omega
        have hq : g ≠ w.heap.size := by omega
        have hq2 : g2 ≠ w.heap.size := by omega
        have hq3 : g ≠ w.heap.size + 1 := by omega
        have hq4 : g2 ≠ w.heap.size + 1 := by omega
        have HV1 := Lib.hid HX.out.1
        have hB9 : w.heap.size ≠ b := by omega
        have hC9 : w.heap.size + 1 ≠ b := by omega
        have HV2 := Lib.hid HX.out.2
        clear HX
        go_region_held3 (fun w' => (w'.cell? ⟨g, 0, none⟩ = some (.int .i64 p) ∧ w'.cell? ⟨g, 1, none⟩ = some (.int .i64 q)) ∧ (w'.cell? ⟨g2, 0, none⟩ = some (.int .i64 p) ∧ w'.cell? ⟨g2, 1, none⟩ = some (.int .i64 q))) (first | with_reducible exact k5.out | with_reducible exact k4.out | with_reducible exact kW.out | with_reducible exact kW.out.drew | with_reducible exact k4.out.drew | with_reducible exact k5.out.drew | with_reducible exact C22.of (X5.out.far _ _ hq) (Y5.out.far _ _ hq2) | with_reducible exact C22.of ((X5.out.far _ _ hq).far _ _ hq3) ((Y5.out.far _ _ hq2).far _ _ hq4) | go_keep) (first | (go_at_call 39; (first | ((with_reducible refine (l01BadFraction_wide n b p q _ HV1.out I.out.src).mono ?_); rintro e w4 ⟨⟨a0, a1, rfl, -⟩, hs4, hg4⟩; have hg4x := Lib.hid hg4; clear hg4) | ((with_reducible refine (l01BadFraction_wide n b p q _ HV1.out I.out.drew.src).mono ?_); rintro e w4 ⟨⟨a0, a1, rfl, -⟩, hs4, hg4⟩; have hg4x := Lib.hid (undrewG hg4); clear hg4)); have I4 := Lib.hid (I.out.turn hs4 hg4x.out); have X4 := Lib.hid (M.out.turn I.out hg5 hg4x.out); have Y4 := Lib.hid (N.out.turn I.out hg6 hg4x.out); have k4 := Lib.hid (C22.of X4.out Y4.out); clear hs4 hg4x) | (go_at_call 39; (first | ((with_reducible refine (l01BadFraction_wide n b p q _ HV2.out I4.out.src).mono ?_); rintro e w5 ⟨⟨c0, c1, rfl, -⟩, hs5, hg5'⟩; have hg5x := Lib.hid hg5'; clear hg5') | ((with_reducible refine (l01BadFraction_wide n b p q _ HV2.out I4.out.drew.src).mono ?_); rintro e w5 ⟨⟨c0, c1, rfl, -⟩, hs5, hg5'⟩; have hg5x := Lib.hid (undrewG hg5'); clear hg5')); have I5 := Lib.hid (I4.out.turn hs5 hg5x.out); have X5 := Lib.hid (X4.out.turn I4.out hg5 hg5x.out); have Y5 := Lib.hid (Y4.out.turn I4.out hg6 hg5x.out); have k5 := Lib.hid (C22.of X5.out Y5.out); have B5 := Lib.hid (B1.out.grown I5.out hB9); have C5 := Lib.hid (C1.out.grown I5.out hC9); have y5 := Blk2.open_ B5.out; obtain ⟨⟨d0, d1⟩, ⟨e0, e1⟩, hl5⟩ := y5; have y6 := Blk2.open_ C5.out; obtain ⟨⟨m0, m1⟩, ⟨n0, n1⟩, hl6⟩ := y6; clear hs5 hg5x))
        all_goals
          have hne1 : w.heap.size ≠ w.heap.size + 1 := by omega
          have hne2 : w.heap.size + 1 ≠ w.heap.size := by omega
          have F2 := (B5.out.set a0 a1).far (.int .i64 c0) (.int .i64 c1) hne1
          have F3 := (C5.out.far (.int .i64 a0) (.int .i64 a1) hne2).set c0 c1
          obtain ⟨⟨s0, s1⟩, -, -⟩ := Blk2.open_ F2
          obtain ⟨⟨t0, t1⟩, -, -⟩ := Blk2.open_ F3
          have HF := Lib.hid (below_set2 (x := (.int .i64 c0)) (y := (.int .i64 c1)) (r := w.heap.size + 1) (below_set2 (x := (.int .i64 a0)) (y := (.int .i64 a1)) (r := w.heap.size) (HB1.out.trans (I5.out.belowN (m := w.heap.size) (by omega))) (Nat.le_refl _)) (Nat.le_succ _))
          clear F2 F3
          go_wp2_with fail
          refine bodyPost_ret (v := .tuple #[(.agg #[.int .i64 a0, .int .i64 a1]), (.agg #[.int .i64 c0, .int .i64 c1])]) (by simp [results, Try.results14, go_sem, s0, s1, t0, t1] <;> rfl) rfl ?_
          exact ⟨⟨_, _, _, _, rfl⟩, HF.out⟩
      · have hv1' : (v == 1) = false := by simpa using hv1
        clear hv1
        have hlN := N.out.lt
        have kW := Lib.hid (C22.of M.out N.out)
        have hwg : w.heap.size + 1 < g := by have := B1.out.lt; have := C1.out.lt; omega
        have hq : g ≠ w.heap.size := by omega
        have hq2 : g2 ≠ w.heap.size := by omega
        have hq3 : g ≠ w.heap.size + 1 := by omega
        have hq4 : g2 ≠ w.heap.size + 1 := by omega
        have HV1 := Lib.hid HX.out.1
        have hB9 : w.heap.size ≠ b := by omega
        have hC9 : w.heap.size + 1 ≠ b := by omega
        have HV2 := Lib.hid HX.out.2
        clear HX
        go_upto_region 11 with (fail)
        go_region_held3 (fun w' => (w'.cell? ⟨g, 0, none⟩ = some (.int .i64 p) ∧ w'.cell? ⟨g, 1, none⟩ = some (.int .i64 q)) ∧ (w'.cell? ⟨g2, 0, none⟩ = some (.int .i64 r) ∧ w'.cell? ⟨g2, 1, none⟩ = some (.int .i64 s))) (first | with_reducible exact k5.out | with_reducible exact k4.out | with_reducible exact kW.out | with_reducible exact kW.out.drew | with_reducible exact k4.out.drew | with_reducible exact k5.out.drew | with_reducible exact C22.of (X5.out.far _ _ hq) (Y5.out.far _ _ hq2) | with_reducible exact C22.of ((X5.out.far _ _ hq).far _ _ hq3) ((Y5.out.far _ _ hq2).far _ _ hq4) | go_keep) (first | (go_at_call 39; (first | ((with_reducible refine (l01BadFraction_wide n b p q _ HV1.out I.out.src).mono ?_); rintro e w4 ⟨⟨a0, a1, rfl, -⟩, hs4, hg4⟩; have hg4x := Lib.hid hg4; clear hg4) | ((with_reducible refine (l01BadFraction_wide n b p q _ HV1.out I.out.drew.src).mono ?_); rintro e w4 ⟨⟨a0, a1, rfl, -⟩, hs4, hg4⟩; have hg4x := Lib.hid (undrewG hg4); clear hg4)); have I4 := Lib.hid (I.out.turn hs4 hg4x.out); have X4 := Lib.hid (M.out.turn I.out hg5 hg4x.out); have Y4 := Lib.hid (N.out.turn I.out hg6 hg4x.out); have k4 := Lib.hid (C22.of X4.out Y4.out); clear hs4 hg4x) | (go_at_call 39; (first | ((with_reducible refine (l01BadFraction_wide n b r s _ HV2.out I4.out.src).mono ?_); rintro e w5 ⟨⟨c0, c1, rfl, -⟩, hs5, hg5'⟩; have hg5x := Lib.hid hg5'; clear hg5') | ((with_reducible refine (l01BadFraction_wide n b r s _ HV2.out I4.out.drew.src).mono ?_); rintro e w5 ⟨⟨c0, c1, rfl, -⟩, hs5, hg5'⟩; have hg5x := Lib.hid (undrewG hg5'); clear hg5')); have I5 := Lib.hid (I4.out.turn hs5 hg5x.out); have X5 := Lib.hid (X4.out.turn I4.out hg5 hg5x.out); have Y5 := Lib.hid (Y4.out.turn I4.out hg6 hg5x.out); have k5 := Lib.hid (C22.of X5.out Y5.out); have B5 := Lib.hid (B1.out.grown I5.out hB9); have C5 := Lib.hid (C1.out.grown I5.out hC9); have y5 := Blk2.open_ B5.out; obtain ⟨⟨d0, d1⟩, ⟨e0, e1⟩, hl5⟩ := y5; have y6 := Blk2.open_ C5.out; obtain ⟨⟨m0, m1⟩, ⟨n0, n1⟩, hl6⟩ := y6; clear hs5 hg5x))
        all_goals
          have hne1 : w.heap.size ≠ w.heap.size + 1 := by omega
          have hne2 : w.heap.size + 1 ≠ w.heap.size := by omega
          have F2 := (B5.out.set a0 a1).far (.int .i64 c0) (.int .i64 c1) hne1
          have F3 := (C5.out.far (.int .i64 a0) (.int .i64 a1) hne2).set c0 c1
          obtain ⟨⟨s0, s1⟩, -, -⟩ := Blk2.open_ F2
          obtain ⟨⟨t0, t1⟩, -, -⟩ := Blk2.open_ F3
          have HF := Lib.hid (below_set2 (x := (.int .i64 c0)) (y := (.int .i64 c1)) (r := w.heap.size + 1) (below_set2 (x := (.int .i64 a0)) (y := (.int .i64 a1)) (r := w.heap.size) (HB1.out.trans (I5.out.belowN (m := w.heap.size) (by omega))) (Nat.le_refl _)) (Nat.le_succ _))
          clear F2 F3
          go_wp2_with fail
          refine bodyPost_ret (v := .tuple #[(.agg #[.int .i64 a0, .int .i64 a1]), (.agg #[.int .i64 c0, .int .i64 c1])]) (by simp [results, Try.results14, go_sem, s0, s1, t0, t1] <;> rfl) rfl ?_
          exact ⟨⟨_, _, _, _, rfl⟩, HF.out⟩
end Go.Proofs.Ytjnkogkpdbgohaa
