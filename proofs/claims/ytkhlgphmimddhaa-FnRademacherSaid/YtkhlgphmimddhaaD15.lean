/- Draws of matrices: those of the sums' laws. -/
import Derived.Test.YtkhlgphmimddhaaD14
namespace Go.Proofs.Ytkhlgphmimddhaa
open Go.RowKit
theorem Bytes.after {w w' : World} {n len : Nat} {a : Option Addr} (h : Bytes w n a len) (hb : Below n w w') : Bytes w' w'.heap.size a len := fun hl => by
  obtain ⟨b, o, ha, h1, h2, h3⟩ := h.below hb hl
  exact ⟨b, o, ha, h2, h2, h3⟩
theorem Bm.grown {r n b : Nat} {w w' : World} {p q s u : Int} (h : Bm w r p q s u) (hi : InS n b w w') (hr : r ≠ b) : Bm w' r p q s u := blk_keep h hi.grown hr
theorem InS.belowN {n b m : Nat} {w w' : World} (h : InS n b w w') (hm : m ≤ b) : Below m w w' :=
  (Below.refl m w).grown h.grown (by have := h.old; omega) (fun k hk => by injection hk with hk; omega)
theorem l01Spoil_any (n b : Nat) (w : World) (hs : Src w n b) :
    Calls Try.prog 92 #[.pointer (some ⟨b, 0, none⟩)] w fun e w' => RetA e ∧ Src w' n b ∧ w.grownBy w' (some b) := by
  have I0 := Lib.hid ((InS.start hs).alloc (.cells #[(.int .i64 0), (.int .i64 0), (.int .i64 0), (.int .i64 0)] 36))
  clear hs
  go_enter Try.func92, Try.ntmps92
  go_wp2_with fail
  refine (l01Draw_any n b _ I0.out.src).mono ?_; rintro e w1 ⟨⟨p, q, r, s, rfl, -⟩, hs1, hg1⟩
  have I1 := Lib.hid (I0.out.turn hs1 hg1)
  have B1 := Lib.hid ((Bm.new (w := w) (p := 0) (q := 0) (s := 0) (u := 0)).turn I0.out (Nat.le_refl _) hg1)
  clear hs1 hg1 I0
  go_wp2_with fail
  refine (l01Bad_any n b p q r s _ I1.out.src).mono ?_; rintro e w2 ⟨⟨p', q', r', s', rfl⟩, hs2, hg2⟩
  have I2 := Lib.hid (I1.out.turn hs2 hg2)
  have B2 := Lib.hid (B1.out.turn I1.out (Nat.le_refl _) hg2)
  clear hs2 hg2 I1 B1
  obtain ⟨⟨c0, c1, c2, c3⟩, ⟨f0, f1, f2, f3⟩, hl3⟩ := B2.out.open_
  go_wp2_with fail
  refine bodyPost_ret (v := (.agg #[.int .i64 p', .int .i64 q', .int .i64 r', .int .i64 s'])) (by simp [results, Try.results92, go_sem, set4_0 B2.out, set4_1 B2.out, set4_2 B2.out, set4_3 B2.out] <;> rfl) rfl ?_
  have IF := I2.out.set4 (.int .i64 p') (.int .i64 q') (.int .i64 r') (.int .i64 s') (Nat.le_refl w.heap.size)
  exact ⟨⟨_, _, _, _, rfl⟩, IF.src, IF.grown⟩
theorem DrawFirstNumber_any (a : Option Addr) (len cap : Nat) (w : World) (hl : len ≤ 1152921504606846976) (hb : Bytes w w.heap.size a len) :
    Calls Try.prog 52 #[.slice a len cap] w fun e w' => RetA e ∧ Below w.heap.size w w' := by
  have hA : Below w.heap.size w (w.alloc (.cells #[(.int .i64 0), (.int .i64 0), (.int .i64 0), (.int .i64 0)] 36)) := (Below.refl _ w).alloc (Nat.le_refl _) _
  have HF := Lib.hid (l01From_any a len cap _ hl (hb.after hA))
  have HA := Lib.hid hA
  clear hb hA
  go_enter Try.func52, Try.ntmps52
  go_wp2_with fail
  refine (HF.out).mono ?_; rintro e w1 ⟨b, rfl, hs1, hb1⟩
  have HB1 := Lib.hid (bfin HA.out hb1)
  have B1 := Lib.hid ((Bm.new (w := w) (p := 0) (q := 0) (s := 0) (u := 0)).below hb1)
  have I1 := Lib.hid (InS.start hs1)
  have hbn : w.heap.size + 1 ≤ b := by have := hs1.ge; simpa using this
  clear HF HA hs1 hb1
  go_wp2_with fail
  refine (l01Spoil_any _ b _ I1.out.src).mono ?_; rintro e w2 ⟨⟨p, q, r, s, rfl⟩, hs2, hg2⟩
  have I2 := Lib.hid (I1.out.turn hs2 hg2)
  have B2 := Lib.hid (B1.out.grown I2.out (by omega))
  have HB2 := Lib.hid (HB1.out.trans (I2.out.belowN (m := w.heap.size) (by omega)))
  clear hs2 hg2 I1 B1 HB1
  obtain ⟨⟨c0, c1, c2, c3⟩, ⟨f0, f1, f2, f3⟩, hl3⟩ := B2.out.open_
  go_wp2_with fail
  refine bodyPost_ret (v := (.agg #[.int .i64 p, .int .i64 q, .int .i64 r, .int .i64 s])) (by simp [results, Try.results52, go_sem, set4_0 B2.out, set4_1 B2.out, set4_2 B2.out, set4_3 B2.out] <;> rfl) rfl ?_
  exact ⟨⟨_, _, _, _, rfl⟩, below_set4 HB2.out (Nat.le_refl _)⟩
abbrev C88 (w : World) (g g' : Nat) (p q r s p' q' r' s' : Int) : Prop := (w.cell? ⟨g, 0, none⟩ = some (.int .i64 p) ∧ w.cell? ⟨g, 1, none⟩ = some (.int .i64 q) ∧ w.cell? ⟨g, 2, none⟩ = some (.int .i64 r) ∧ w.cell? ⟨g, 3, none⟩ = some (.int .i64 s)) ∧ (w.cell? ⟨g', 0, none⟩ = some (.int .i64 p') ∧ w.cell? ⟨g', 1, none⟩ = some (.int .i64 q') ∧ w.cell? ⟨g', 2, none⟩ = some (.int .i64 r') ∧ w.cell? ⟨g', 3, none⟩ = some (.int .i64 s'))
theorem C88.of {w : World} {g g' : Nat} {p q r s p' q' r' s' : Int} (h : Bm w g p q r s) (h' : Bm w g' p' q' r' s') : C88 w g g' p q r s p' q' r' s' := ⟨(Blk4.open_ h).1, (Blk4.open_ h').1⟩
theorem C88.drew {w : World} {g g' : Nat} {p q r s p' q' r' s' : Int} (h : C88 w g g' p q r s p' q' r' s') : C88 w.drew g g' p q r s p' q' r' s' := h
theorem undrew {w w' : World} {r : Option Nat} (h : w.drew.grownBy w' r) : w.grownBy w' r := ⟨h.os, h.tape, h.output, h.size, h.block⟩
def RetAA (e : Ending) : Prop := ∃ p q r s p' q' r' s' : Int, e = .returned (.tuple #[(.agg #[.int .i64 p, .int .i64 q, .int .i64 r, .int .i64 s]), (.agg #[.int .i64 p', .int .i64 q', .int .i64 r', .int .i64 s'])])
set_option maxRecDepth 1000000 in
set_option maxHeartbeats 4000000 in
theorem DrawProductGap_any (a : Option Addr) (len cap : Nat) (w : World) (hl : len ≤ 1152921504606846976) (hb : Bytes w w.heap.size a len) :
    Calls Try.prog 56 #[.slice a len cap] w fun e w' => RetAA e ∧ Below w.heap.size w w' := by
  have hA : Below w.heap.size w ((w.alloc (.cells #[(.int .i64 0), (.int .i64 0), (.int .i64 0), (.int .i64 0)] 36)).alloc (.cells #[(.int .i64 0), (.int .i64 0), (.int .i64 0), (.int .i64 0)] 36)) := ((Below.refl _ w).alloc (Nat.le_refl _) _).alloc (by simp) _
  have HF := Lib.hid (l01From_any a len cap _ hl (hb.after hA))
  have HA := Lib.hid hA
  clear hb hA
  go_enter Try.func56, Try.ntmps56
  go_wp2_with fail
  refine (HF.out).mono ?_; rintro e w1 ⟨b, rfl, hs1, hb1⟩
  have HB1 := Lib.hid (bfin HA.out hb1)
  have B1 := Lib.hid (((Bm.new (w := w) (p := 0) (q := 0) (s := 0) (u := 0)).alloc (.cells #[(.int .i64 0), (.int .i64 0), (.int .i64 0), (.int .i64 0)] 36)).below hb1)
  have C1 := Lib.hid ((Bm.newE (g := w.heap.size + 1) (w := w.alloc (.cells #[(.int .i64 0), (.int .i64 0), (.int .i64 0), (.int .i64 0)] 36)) (p := 0) (q := 0) (s := 0) (u := 0) (by simp)).below hb1)
  have I1 := Lib.hid (InS.start hs1)
  have hbn : w.heap.size + 2 ≤ b := by have := hs1.ge; simpa using this
  generalize hnn : ((w.alloc (.cells #[(.int .i64 0), (.int .i64 0), (.int .i64 0), (.int .i64 0)] 36)).alloc (.cells #[(.int .i64 0), (.int .i64 0), (.int .i64 0), (.int .i64 0)] 36)).heap.size = n at *
  clear HF HA hs1 hb1 hnn
  go_wp2_with fail
  refine (l01Small_any n b _ I1.out.src).mono ?_; rintro e w2 ⟨⟨p, q, r, s, rfl, -⟩, hs2, hg2⟩
  have I2 := Lib.hid ((I1.out.turn hs2 hg2).alloc (.cells #[(.int .i64 p), (.int .i64 q), (.int .i64 r), (.int .i64 s)] 36))
  have M2 := Lib.hid (Bm.new (w := w2) (p := p) (q := q) (s := r) (u := s))
  have h12 : w1.heap.size ≤ w2.heap.size := hg2.size
  clear hs2 hg2
  go_wp2_with fail
  refine (l01Draw_any n b _ I2.out.src).mono ?_; rintro e w3 ⟨⟨p', q', r', s', rfl, -⟩, hs3, hg3⟩
  have I3 := Lib.hid ((I2.out.turn hs3 hg3).alloc (.cells #[(.int .i64 p'), (.int .i64 q'), (.int .i64 r'), (.int .i64 s')] 36))
  have M3 := Lib.hid ((M2.out.turn I2.out h12 hg3).alloc (.cells #[(.int .i64 p'), (.int .i64 q'), (.int .i64 r'), (.int .i64 s')] 36))
  have N3 := Lib.hid (Bm.new (w := w3) (p := p') (q := q') (s := r') (u := s'))
  have h13 : w1.heap.size ≤ w3.heap.size := Nat.le_trans h12 (Nat.le_trans (by simp) hg3.size)
  clear hs3 hg3 I2 M2
  go_upto_region 4 with (fail)
  generalize w3.alloc (.cells #[(.int .i64 p'), (.int .i64 q'), (.int .i64 r'), (.int .i64 s')] 36) = W at *
  generalize w2.heap.size = g at *
  generalize w3.heap.size = g' at *
  have kW := Lib.hid (C88.of M3.out N3.out)
  have hbw : b < w1.heap.size := I1.out.old
  obtain ⟨⟨b0, b1, b2, b3⟩, ⟨j0, j1, j2, j3⟩, hlb⟩ := (B1.out.grown I3.out (by omega)).open_
  go_region_held3 (fun w' => (w'.cell? ⟨g, 0, none⟩ = some (.int .i64 p) ∧ w'.cell? ⟨g, 1, none⟩ = some (.int .i64 q) ∧ w'.cell? ⟨g, 2, none⟩ = some (.int .i64 r) ∧ w'.cell? ⟨g, 3, none⟩ = some (.int .i64 s)) ∧ (w'.cell? ⟨g', 0, none⟩ = some (.int .i64 p') ∧ w'.cell? ⟨g', 1, none⟩ = some (.int .i64 q') ∧ w'.cell? ⟨g', 2, none⟩ = some (.int .i64 r') ∧ w'.cell? ⟨g', 3, none⟩ = some (.int .i64 s'))) (first | with_reducible exact k5.out | with_reducible exact k4.out | with_reducible exact kW.out | with_reducible exact kW.out.drew | with_reducible exact k4.out.drew | with_reducible exact k5.out.drew | with_reducible exact C88.of (X5.out.far _ _ _ _ (by omega)) (Y5.out.far _ _ _ _ (by omega)) | with_reducible exact C88.of ((X5.out.far _ _ _ _ (by omega)).far _ _ _ _ (by omega)) ((Y5.out.far _ _ _ _ (by omega)).far _ _ _ _ (by omega)) | go_keep) (first | (go_at_call 97; (first | ((with_reducible refine (l01Bad_any n b p q r s _ I3.out.src).mono ?_); rintro e w4 ⟨⟨a0, a1, a2, a3, rfl⟩, hs4, hg4⟩; have hg4x := Lib.hid hg4; clear hg4) | ((with_reducible refine (l01Bad_any n b p q r s _ I3.out.drew.src).mono ?_); rintro e w4 ⟨⟨a0, a1, a2, a3, rfl⟩, hs4, hg4⟩; have hg4x := Lib.hid (undrew hg4); clear hg4)); have I4 := Lib.hid (I3.out.turn hs4 hg4x.out); have X4 := Lib.hid (M3.out.turn I3.out h12 hg4x.out); have Y4 := Lib.hid (N3.out.turn I3.out h13 hg4x.out); have k4 := Lib.hid (C88.of X4.out Y4.out); clear hs4 hg4x) | (go_at_call 97; (first | ((with_reducible refine (l01Bad_any n b p' q' r' s' _ I4.out.src).mono ?_); rintro e w5 ⟨⟨c0, c1, c2, c3, rfl⟩, hs5, hg5⟩; have hg5x := Lib.hid hg5; clear hg5) | ((with_reducible refine (l01Bad_any n b p' q' r' s' _ I4.out.drew.src).mono ?_); rintro e w5 ⟨⟨c0, c1, c2, c3, rfl⟩, hs5, hg5⟩; have hg5x := Lib.hid (undrew hg5); clear hg5)); have I5 := Lib.hid (I4.out.turn hs5 hg5x.out); have X5 := Lib.hid (X4.out.turn I4.out h12 hg5x.out); have Y5 := Lib.hid (Y4.out.turn I4.out h13 hg5x.out); have k5 := Lib.hid (C88.of X5.out Y5.out); have B5 := Lib.hid (B1.out.grown I5.out (by omega)); have C5 := Lib.hid (C1.out.grown I5.out (by omega)); have y5 := Blk4.open_ B5.out; obtain ⟨⟨d0, d1, d2, d3⟩, ⟨e0, e1, e2, e3⟩, hl5⟩ := y5; have y6 := Blk4.open_ C5.out; obtain ⟨⟨m0, m1, m2, m3⟩, ⟨n0, n1, n2, n3⟩, hl6⟩ := y6; clear hs5 hg5x))
  all_goals
    have F2 := (B5.out.set a0 a1 a2 a3).far (.int .i64 c0) (.int .i64 c1) (.int .i64 c2) (.int .i64 c3) (show w.heap.size ≠ w.heap.size + 1 by omega)
    have F3 := (C5.out.far (.int .i64 a0) (.int .i64 a1) (.int .i64 a2) (.int .i64 a3) (show w.heap.size + 1 ≠ w.heap.size by omega)).set c0 c1 c2 c3
    obtain ⟨⟨s0, s1, s2, s3⟩, -, -⟩ := Blk4.open_ F2
    obtain ⟨⟨t0, t1, t2, t3⟩, -, -⟩ := Blk4.open_ F3
    have HF := Lib.hid (below_set4 (x := (.int .i64 c0)) (y := (.int .i64 c1)) (z := (.int .i64 c2)) (t := (.int .i64 c3)) (r := w.heap.size + 1) (below_set4 (x := (.int .i64 a0)) (y := (.int .i64 a1)) (z := (.int .i64 a2)) (t := (.int .i64 a3)) (r := w.heap.size) (HB1.out.trans (I5.out.belowN (m := w.heap.size) (by omega))) (Nat.le_refl _)) (Nat.le_succ _))
    clear F2 F3
    go_wp2_with fail
    refine bodyPost_ret (v := .tuple #[(.agg #[.int .i64 a0, .int .i64 a1, .int .i64 a2, .int .i64 a3]), (.agg #[.int .i64 c0, .int .i64 c1, .int .i64 c2, .int .i64 c3])]) (by simp [results, Try.results56, go_sem, s0, s1, s2, s3, t0, t1, t2, t3] <;> rfl) rfl ?_
    exact ⟨⟨_, _, _, _, _, _, _, _, rfl⟩, HF.out⟩
end Go.Proofs.Ytkhlgphmimddhaa
