/- Draws: two fractions (the text K12B, for a seat without distances; printed by gen_m1.py). -/
import Derived.Test.YtjnkogkpdbgohaaGreatDoorK12A
import Derived.Test.YtjnkogkpdbgohaaGreatDoorM1
import Derived.Test.YtjnkogkpdbgohaaGreatDoorDa
namespace Go.Proofs.YtjnkogkpdbgohaaGreatDoor
open Go.RowKit
theorem undrewG {w w' : World} {r : Option Nat} (h : w.drew.grownBy w' r) : w.grownBy w' r := ⟨h.os, h.tape, h.output, h.size, h.block⟩
theorem unallocG {w w' : World} {o : Obj} {r : Option Nat} (h : (w.alloc o).grownBy w' r) : w.grownBy w' r := grown_trans' (World.grownBy_alloc w _ _) h
/-- A fraction in a block. -/
abbrev Bf (w : World) (r : Nat) (p q : Int) : Prop := Blk2 w r 34 p q
theorem Bf.turn {n b r : Nat} {w0 w w' : World} {p q : Int} (h : Bf w r p q) (hi : InS n b w0 w) (hr : w0.heap.size ≤ r) (hg : w.grownBy w' (some b)) : Bf w' r p q :=
  blk_keep h hg (by have := hi.old; omega)
theorem Bf.below {r : Nat} {w w' : World} {p q : Int} (h : Bf w r p q) (hb : Below w.heap.size w w') : Bf w' r p q := heap_below h hb
theorem Bf.alloc {r : Nat} {w : World} {p q : Int} (h : Bf w r p q) (o : Obj) : Bf (w.alloc o) r p q := heap_alloc h
theorem Bf.new {w : World} {p q : Int} : Bf (w.alloc (.cells #[(.int .i64 p), (.int .i64 q)] 34)) w.heap.size p q := heap_new
theorem Bf.newE {w : World} {g : Nat} {p q : Int} (h : g = w.heap.size) : Bf (w.alloc (.cells #[(.int .i64 p), (.int .i64 q)] 34)) g p q := heap_new' h
theorem Bf.set {r : Nat} {w : World} {p q : Int} (h : Bf w r p q) (x y : Int) : Bf ((w.setCell ⟨r, 0, none⟩ (.int .i64 x)).setCell ⟨r, 1, none⟩ (.int .i64 y)) r x y := heap_set2 h
theorem Bf.far {r r' : Nat} {w : World} {p q : Int} (h : Bf w r p q) (x y : Value) (hne : r ≠ r') :
    Bf ((w.setCell ⟨r', 0, none⟩ x).setCell ⟨r', 1, none⟩ y) r p q := heap_keep (heap_keep h hne) hne
theorem Bf.lt {r : Nat} {w : World} {p q : Int} (h : Bf w r p q) : r < w.heap.size := lt_of_blk h
theorem Bf.grown {r n b : Nat} {w w' : World} {p q : Int} (h : Bf w r p q) (hi : InS n b w w') (hr : r ≠ b) : Bf w' r p q := blk_keep h hi.grown hr
theorem InS.set2 {n b : Nat} {w0 w : World} (h : InS n b w0 w) {r : Nat} (x y : Value) (hr : w0.heap.size ≤ r) :
    InS n b w0 ((w.setCell ⟨r, 0, none⟩ x).setCell ⟨r, 1, none⟩ y) := (h.set x hr).set y hr
theorem below_set2 {B : Nat} {w0 w : World} {r : Nat} {x y : Value} (h : Below B w0 w) (hr : B ≤ r) : Below B w0 ((w.setCell ⟨r, 0, none⟩ x).setCell ⟨r, 1, none⟩ y) :=
  (h.setCell (p := ⟨r, 0, none⟩) hr x).setCell (p := ⟨r, 1, none⟩) hr y
abbrev C22 (w : World) (g g' : Nat) (p q r s : Int) : Prop := (w.cell? ⟨g, 0, none⟩ = some (.int .i64 p) ∧ w.cell? ⟨g, 1, none⟩ = some (.int .i64 q)) ∧ (w.cell? ⟨g', 0, none⟩ = some (.int .i64 r) ∧ w.cell? ⟨g', 1, none⟩ = some (.int .i64 s))
theorem C22.of {w : World} {g g' : Nat} {p q r s : Int} (h : Bf w g p q) (h' : Bf w g' r s) : C22 w g g' p q r s := ⟨(Blk2.open_ h).1, (Blk2.open_ h').1⟩
theorem C22.drew {w : World} {g g' : Nat} {p q r s : Int} (h : C22 w g g' p q r s) : C22 w.drew g g' p q r s := h
def RetFrs (e : Ending) : Prop := ∃ p q r s : Int, e = .returned (.tuple #[(.agg #[.int .i64 p, .int .i64 q]), (.agg #[.int .i64 r, .int .i64 s])])
theorem SFrac.w {x y : Int} (h : SFrac x y) : WFrac x y := by unfold SFrac at h; unfold WFrac; omega
theorem coSign_w {x y : Int} (h : WFrac x y) : WFrac (coSign x y * x) (coSign x y * y) := by
  unfold WFrac at *
  unfold coSign
  split <;> omega
theorem gcd_col {p q r s : Int} (h : p * s - q * r = 1) : (Int.gcd p r : Int) = 1 ∧ (Int.gcd q s : Int) = 1 := by
  have h1 : p * s - r * q = 1 := by rw [Int.mul_comm r q]; exact h
  have h2 : q * -r - s * -p = 1 := by
    have : q * -r - s * -p = p * s - q * r := by grind
    rw [this]; exact h
  exact ⟨by exact_mod_cast gcd_of_det (.inl h1), by exact_mod_cast gcd_of_det (.inl h2)⟩
set_option maxRecDepth 1000000 in
set_option maxHeartbeats 8000000 in
theorem l03Pair_any (a : Option Addr) (len cap : Nat) (w : World) (hl : len ≤ 1152921504606846976) (hb : Bytes w w.heap.size a len) :
    Calls Tryz.prog 52 #[.slice a len cap] w fun e w' => RetFrs e ∧ Below w.heap.size w w' := by
  have hA : Below w.heap.size w ((w.alloc (.cells #[(.int .i64 0), (.int .i64 0)] 34)).alloc (.cells #[(.int .i64 0), (.int .i64 0)] 34)) := ((Below.refl _ w).alloc (Nat.le_refl _) _).alloc (by simp) _
  have HF := Lib.hid (l01From_any a len cap _ hl (hb.after hA))
  have HA := Lib.hid hA
  clear hb hA
  go_enter Tryz.func52, Tryz.ntmps52
  go_wp2_with fail
  refine (HF.out).mono ?_; rintro e w1 ⟨b, rfl, hs1, hb1⟩
  have HB1 := Lib.hid (bfin HA.out hb1)
  have B1 := Lib.hid (((Bf.new (w := w) (p := 0) (q := 0)).alloc (.cells #[(.int .i64 0), (.int .i64 0)] 34)).below hb1)
  have C1 := Lib.hid ((Bf.newE (g := w.heap.size + 1) (w := w.alloc (.cells #[(.int .i64 0), (.int .i64 0)] 34)) (p := 0) (q := 0) (by simp)).below hb1)
  have I := Lib.hid (InS.start hs1)
  have hbn : w.heap.size + 2 ≤ b := by have := hs1.ge; simpa using this
  have hbw : b < w1.heap.size := hs1.lt
  generalize hnn : ((w.alloc (.cells #[(.int .i64 0), (.int .i64 0)] 34)).alloc (.cells #[(.int .i64 0), (.int .i64 0)] 34)).heap.size = n at *
  clear HF HA hs1 hb1 hnn
  go_wp2_with fail
  refine (l01DrawFraction_any n b _ I.out.src).mono ?_; rintro e w2 ⟨⟨p, q, rfl, hpq⟩, hs, hg⟩
  replace I := Lib.hid (I.out.turn hs hg)
  clear hs hg
  have HW1 := Lib.hid hpq.w
  clear hpq
  go_wp2_with fail
  refine (l01DrawFraction_any n b _ I.out.src).mono ?_; rintro e w3 ⟨⟨r, s, rfl, hrs⟩, hs, hg⟩
  replace I := Lib.hid (I.out.turn hs hg)
  clear hs hg
  have HX := Lib.hid (And.intro HW1.out hrs.w)
  clear hrs HW1
  have hg5 : w1.heap.size ≤ w3.heap.size := I.out.size
  have M := Lib.hid ((Bf.new (w := w3) (p := p) (q := q)).alloc (.cells #[(.int .i64 r), (.int .i64 s)] 34))
  have N := Lib.hid (Bf.newE (g := w3.heap.size + 1) (w := w3.alloc (.cells #[(.int .i64 p), (.int .i64 q)] 34)) (p := r) (q := s) (by simp))
  replace I := Lib.hid ((I.out.alloc (.cells #[(.int .i64 p), (.int .i64 q)] 34)).alloc (.cells #[(.int .i64 r), (.int .i64 s)] 34))
  go_upto_region 3 with (fail)
  generalize (w3.alloc (.cells #[(.int .i64 p), (.int .i64 q)] 34)).alloc (.cells #[(.int .i64 r), (.int .i64 s)] 34) = W at *
  generalize w3.heap.size = g at *
  have hg6 : w1.heap.size ≤ g + 1 := by omega
  have hww : w.heap.size ≤ w1.heap.size := HB1.out.size
  have hgg : g ≠ g + 1 := by omega
  have hgg' : g + 1 ≠ g := by omega
  go_wp2_with fail
  refine (l01Next_any n b 3 _ (by omega) I.out.src).mono ?_; rintro e w4 ⟨u, rfl, -, hs, hg⟩
  replace M := Lib.hid (M.out.turn I.out (hg5) hg)
  replace N := Lib.hid (N.out.turn I.out (hg6) hg)
  replace I := Lib.hid (I.out.turn hs hg)
  clear hs hg
  by_cases hu0 : u = 0
  · subst hu0
    go_wp2_with fail
    refine (Dm.l01Draw_any n b _ I.out.src).mono ?_; rintro e w5 ⟨⟨a1, a2, a3, a4, rfl, hd⟩, hs, hg⟩
    replace M := Lib.hid (M.out.turn I.out (hg5) hg)
    replace N := Lib.hid (N.out.turn I.out (hg6) hg)
    replace I := Lib.hid (I.out.turn hs hg)
    clear hs hg
    obtain ⟨hg1, hg2⟩ := gcd_col hd.det
    obtain ⟨⟨e0, e1⟩, ⟨e2, e3⟩, ⟨e4, e5⟩, ⟨e6, e7⟩⟩ := hd.em
    have HR1 := Lib.hid (fun W => l01Reduced_cop a1 a3 W hg1 (by omega) (by omega) (by omega) (by omega))
    have HR2 := Lib.hid (fun W => l01Reduced_cop a2 a4 W hg2 (by omega) (by omega) (by omega) (by omega))
    replace HX := Lib.hid (And.intro (coSign_w (x := a1) (y := a3) ⟨e0, e1, e4, e5⟩) (coSign_w (x := a2) (y := a4) ⟨e2, e3, e6, e7⟩))
    clear hd hg1 hg2 e0 e1 e2 e3 e4 e5 e6 e7
    generalize coSign a1 a3 * a1 = p1 at *
    generalize coSign a1 a3 * a3 = q1 at *
    generalize coSign a2 a4 * a2 = r1 at *
    generalize coSign a2 a4 * a4 = s1 at *
    have hwg0 : g + 1 < w5.heap.size := N.out.lt
    have K := Lib.hid (Bm.new (w := w5) (p := a1) (q := a2) (s := a3) (u := a4))
    replace M := Lib.hid (M.out.alloc (.cells #[(.int .i64 a1), (.int .i64 a2), (.int .i64 a3), (.int .i64 a4)] 94))
    replace N := Lib.hid (N.out.alloc (.cells #[(.int .i64 a1), (.int .i64 a2), (.int .i64 a3), (.int .i64 a4)] 94))
    replace I := Lib.hid (I.out.alloc (.cells #[(.int .i64 a1), (.int .i64 a2), (.int .i64 a3), (.int .i64 a4)] 94))
    go_upto_region 6 with (fail)
    generalize w5.alloc (.cells #[(.int .i64 a1), (.int .i64 a2), (.int .i64 a3), (.int .i64 a4)] 94) = W5 at *
    generalize w5.heap.size = k at *
    obtain ⟨⟨k0, k1, k2, k3⟩, -, hlk⟩ := K.out.open_
    go_wp2_with fail
    refine (HR1.out _).mono ?_; rintro e w6 ⟨rfl, hb⟩
    replace M := Lib.hid (M.out.below hb)
    replace N := Lib.hid (N.out.below hb)
    replace K := Lib.hid (K.out.below hb)
    replace I := Lib.hid (I.out.below hb)
    clear hb k0 k1 k2 k3 hlk HR1
    obtain ⟨⟨x0, x1⟩, ⟨y0, y1⟩, hlx⟩ := Blk2.open_ M.out
    have hkg : k ≠ g := by omega
    replace M := Lib.hid (M.out.set p1 q1)
    replace N := Lib.hid (N.out.far (.int .i64 p1) (.int .i64 q1) hgg')
    replace K := Lib.hid (show Bm ((w6.setCell ⟨g, 0, none⟩ (.int .i64 p1)).setCell ⟨g, 1, none⟩ (.int .i64 q1)) k a1 a2 a3 a4 from heap_keep (heap_keep K.out hkg) hkg)
    replace I := Lib.hid (I.out.set2 (.int .i64 p1) (.int .i64 q1) hg5)
    go_upto_region 7 with (fail)
    clear x0 x1 y0 y1 hlx
    generalize (w6.setCell ⟨g, 0, none⟩ (.int .i64 p1)).setCell ⟨g, 1, none⟩ (.int .i64 q1) = W6 at *
    obtain ⟨⟨k0, k1, k2, k3⟩, -, hlk⟩ := K.out.open_
    go_wp2_with fail
    refine (HR2.out _).mono ?_; rintro e w7 ⟨rfl, hb⟩
    replace M := Lib.hid (M.out.below hb)
    replace N := Lib.hid (N.out.below hb)
    replace I := Lib.hid (I.out.below hb)
    clear hb k0 k1 k2 k3 hlk HR2 K
    obtain ⟨⟨x0, x1⟩, ⟨y0, y1⟩, hlx⟩ := Blk2.open_ N.out
    replace M := Lib.hid (M.out.far (.int .i64 r1) (.int .i64 s1) hgg)
    replace N := Lib.hid (N.out.set r1 s1)
    replace I := Lib.hid (I.out.set2 (.int .i64 r1) (.int .i64 s1) hg6)
    go_upto_region 12 with (fail)
    clear x0 x1 y0 y1 hlx
    generalize (w7.setCell ⟨g + 1, 0, none⟩ (.int .i64 r1)).setCell ⟨g + 1, 1, none⟩ (.int .i64 s1) = W7 at *
    have hlN := N.out.lt
    have kW := Lib.hid (C22.of M.out N.out)
    have hwg : w.heap.size + 1 < g := by have := B1.out.lt; have := C1.out.lt; omega
    have hq1 : g ≠ w.heap.size := by omega
    have hq2 : g + 1 ≠ w.heap.size := by omega
    have hq3 : g ≠ w.heap.size + 1 := by omega
    have hq4 : g + 1 ≠ w.heap.size + 1 := by omega
    have HV1 := Lib.hid HX.out.1
    have hB9 : w.heap.size ≠ b := by omega
    have hC9 : w.heap.size + 1 ≠ b := by omega
    have HV2 := Lib.hid HX.out.2
    clear HX
    go_region_held3 (fun w' => (w'.cell? ⟨g, 0, none⟩ = some (.int .i64 p1) ∧ w'.cell? ⟨g, 1, none⟩ = some (.int .i64 q1)) ∧ (w'.cell? ⟨g + 1, 0, none⟩ = some (.int .i64 r1) ∧ w'.cell? ⟨g + 1, 1, none⟩ = some (.int .i64 s1))) (first | with_reducible exact k5.out | with_reducible exact k4.out | with_reducible exact kW.out | with_reducible exact kW.out.drew | with_reducible exact k4.out.drew | with_reducible exact k5.out.drew | with_reducible exact C22.of (X5.out.far _ _ hq1) (Y5.out.far _ _ hq2) | with_reducible exact C22.of ((X5.out.far _ _ hq1).far _ _ hq3) ((Y5.out.far _ _ hq2).far _ _ hq4) | go_keep) (first | (go_at_call 65; (first | ((with_reducible refine (l01BadFraction_wide n b p1 q1 _ HV1.out I.out.src).mono ?_); rintro e w4 ⟨⟨a0, a1, rfl, -⟩, hs4, hg4⟩; have hg4x := Lib.hid hg4; clear hg4) | ((with_reducible refine (l01BadFraction_wide n b p1 q1 _ HV1.out I.out.drew.src).mono ?_); rintro e w4 ⟨⟨a0, a1, rfl, -⟩, hs4, hg4⟩; have hg4x := Lib.hid (undrewG hg4); clear hg4)); have I4 := Lib.hid (I.out.turn hs4 hg4x.out); have X4 := Lib.hid (M.out.turn I.out hg5 hg4x.out); have Y4 := Lib.hid (N.out.turn I.out hg6 hg4x.out); have k4 := Lib.hid (C22.of X4.out Y4.out); clear hs4 hg4x) | (go_at_call 65; (first | ((with_reducible refine (l01BadFraction_wide n b r1 s1 _ HV2.out I4.out.src).mono ?_); rintro e w5 ⟨⟨c0, c1, rfl, -⟩, hs5, hg5'⟩; have hg5x := Lib.hid hg5'; clear hg5') | ((with_reducible refine (l01BadFraction_wide n b r1 s1 _ HV2.out I4.out.drew.src).mono ?_); rintro e w5 ⟨⟨c0, c1, rfl, -⟩, hs5, hg5'⟩; have hg5x := Lib.hid (undrewG hg5'); clear hg5')); have I5 := Lib.hid (I4.out.turn hs5 hg5x.out); have X5 := Lib.hid (X4.out.turn I4.out hg5 hg5x.out); have Y5 := Lib.hid (Y4.out.turn I4.out hg6 hg5x.out); have k5 := Lib.hid (C22.of X5.out Y5.out); have B5 := Lib.hid (B1.out.grown I5.out hB9); have C5 := Lib.hid (C1.out.grown I5.out hC9); have y5 := Blk2.open_ B5.out; obtain ⟨⟨d0, d1⟩, ⟨e0, e1⟩, hl5⟩ := y5; have y6 := Blk2.open_ C5.out; obtain ⟨⟨m0, m1⟩, ⟨n0, n1⟩, hl6⟩ := y6; clear hs5 hg5x))
    all_goals
      have hne1 : w.heap.size ≠ w.heap.size + 1 := by omega
      have hne2 : w.heap.size + 1 ≠ w.heap.size := by omega
      have F2 := (B5.out.set a0 a1).far (.int .i64 c0) (.int .i64 c1) hne1
      have F3 := (C5.out.far (.int .i64 a0) (.int .i64 a1) hne2).set c0 c1
      obtain ⟨⟨s0, s1⟩, -, -⟩ := Blk2.open_ F2
      obtain ⟨⟨t0, t1⟩, -, -⟩ := Blk2.open_ F3
      have HF := Lib.hid (below_set2 (x := (.int .i64 c0)) (y := (.int .i64 c1)) (r := w.heap.size + 1) (below_set2 (x := (.int .i64 a0)) (y := (.int .i64 a1)) (r := w.heap.size) (HB1.out.trans (I5.out.belowN (m := w.heap.size) (by omega))) (Nat.le_refl _)) (Nat.le_succ _))
      clear F2 F3
      go_wp2_with fail
      refine bodyPost_ret (v := .tuple #[(.agg #[.int .i64 a0, .int .i64 a1]), (.agg #[.int .i64 c0, .int .i64 c1])]) (by simp [results, Tryz.results52, go_sem, s0, s1, t0, t1] <;> rfl) rfl ?_
      exact ⟨⟨_, _, _, _, rfl⟩, HF.out⟩
  · have hu0' : (u == 0) = false := by simpa using hu0
    clear hu0
    by_cases hu1 : u = 1
    · subst hu1
      go_wp2_with fail
      refine (l01Next_any n b 4 _ (by omega) I.out.src).mono ?_; rintro e w5 ⟨v, rfl, -, hs, hg⟩
      replace M := Lib.hid (M.out.turn I.out (hg5) hg)
      replace N := Lib.hid (N.out.turn I.out (hg6) hg)
      replace I := Lib.hid (I.out.turn hs hg)
      clear hs hg
      by_cases hv : v = 0
      · subst hv
        obtain ⟨⟨x0, x1⟩, ⟨y0, y1⟩, hlx⟩ := Blk2.open_ M.out
        replace M := Lib.hid (M.out.set 1000000000 999999999)
        replace N := Lib.hid (N.out.far (.int .i64 1000000000) (.int .i64 999999999) hgg')
        replace I := Lib.hid (I.out.set2 (.int .i64 1000000000) (.int .i64 999999999) hg5)
        go_upto_region 11 with (fail)
        clear x0 x1 y0 y1 hlx
        generalize (w5.setCell ⟨g, 0, none⟩ (.int .i64 1000000000)).setCell ⟨g, 1, none⟩ (.int .i64 999999999) = W5 at *
        obtain ⟨⟨x0, x1⟩, ⟨y0, y1⟩, hlx⟩ := Blk2.open_ N.out
        replace M := Lib.hid (M.out.far (.int .i64 999999999) (.int .i64 999999998) hgg)
        replace N := Lib.hid (N.out.set 999999999 999999998)
        replace I := Lib.hid (I.out.set2 (.int .i64 999999999) (.int .i64 999999998) hg6)
        replace HX := Lib.hid (show WFrac 1000000000 999999999 ∧ WFrac 999999999 999999998 by unfold WFrac; omega)
        go_upto_region 12 with (fail)
        clear x0 x1 y0 y1 hlx
        generalize (W5.setCell ⟨g + 1, 0, none⟩ (.int .i64 999999999)).setCell ⟨g + 1, 1, none⟩ (.int .i64 999999998) = W6 at *
        have hlN := N.out.lt
        have kW := Lib.hid (C22.of M.out N.out)
        have hwg : w.heap.size + 1 < g := by have := B1.out.lt; have := C1.out.lt; omega
        have h999999999 : g ≠ w.heap.size := by omega
        have hq2 : g + 1 ≠ w.heap.size := by omega
        have hq3 : g ≠ w.heap.size + 1 := by omega
        have hq4 : g + 1 ≠ w.heap.size + 1 := by omega
        have HV1 := Lib.hid HX.out.1
        have hB9 : w.heap.size ≠ b := by omega
        have hC9 : w.heap.size + 1 ≠ b := by omega
        have HV2 := Lib.hid HX.out.2
        clear HX
        go_region_held3 (fun w' => (w'.cell? ⟨g, 0, none⟩ = some (.int .i64 1000000000) ∧ w'.cell? ⟨g, 1, none⟩ = some (.int .i64 999999999)) ∧ (w'.cell? ⟨g + 1, 0, none⟩ = some (.int .i64 999999999) ∧ w'.cell? ⟨g + 1, 1, none⟩ = some (.int .i64 999999998))) (first | with_reducible exact k5.out | with_reducible exact k4.out | with_reducible exact kW.out | with_reducible exact kW.out.drew | with_reducible exact k4.out.drew | with_reducible exact k5.out.drew | with_reducible exact C22.of (X5.out.far _ _ h999999999) (Y5.out.far _ _ hq2) | with_reducible exact C22.of ((X5.out.far _ _ h999999999).far _ _ hq3) ((Y5.out.far _ _ hq2).far _ _ hq4) | go_keep) (first | (go_at_call 65; (first | ((with_reducible refine (l01BadFraction_wide n b 1000000000 999999999 _ HV1.out I.out.src).mono ?_); rintro e w4 ⟨⟨a0, a1, rfl, -⟩, hs4, hg4⟩; have hg4x := Lib.hid hg4; clear hg4) | ((with_reducible refine (l01BadFraction_wide n b 1000000000 999999999 _ HV1.out I.out.drew.src).mono ?_); rintro e w4 ⟨⟨a0, a1, rfl, -⟩, hs4, hg4⟩; have hg4x := Lib.hid (undrewG hg4); clear hg4)); have I4 := Lib.hid (I.out.turn hs4 hg4x.out); have X4 := Lib.hid (M.out.turn I.out hg5 hg4x.out); have Y4 := Lib.hid (N.out.turn I.out hg6 hg4x.out); have k4 := Lib.hid (C22.of X4.out Y4.out); clear hs4 hg4x) | (go_at_call 65; (first | ((with_reducible refine (l01BadFraction_wide n b 999999999 999999998 _ HV2.out I4.out.src).mono ?_); rintro e w5 ⟨⟨c0, c1, rfl, -⟩, hs5, hg5'⟩; have hg5x := Lib.hid hg5'; clear hg5') | ((with_reducible refine (l01BadFraction_wide n b 999999999 999999998 _ HV2.out I4.out.drew.src).mono ?_); rintro e w5 ⟨⟨c0, c1, rfl, -⟩, hs5, hg5'⟩; have hg5x := Lib.hid (undrewG hg5'); clear hg5')); have I5 := Lib.hid (I4.out.turn hs5 hg5x.out); have X5 := Lib.hid (X4.out.turn I4.out hg5 hg5x.out); have Y5 := Lib.hid (Y4.out.turn I4.out hg6 hg5x.out); have k5 := Lib.hid (C22.of X5.out Y5.out); have B5 := Lib.hid (B1.out.grown I5.out hB9); have C5 := Lib.hid (C1.out.grown I5.out hC9); have y5 := Blk2.open_ B5.out; obtain ⟨⟨d0, d1⟩, ⟨e0, e1⟩, hl5⟩ := y5; have y6 := Blk2.open_ C5.out; obtain ⟨⟨m0, m1⟩, ⟨n0, n1⟩, hl6⟩ := y6; clear hs5 hg5x))
        all_goals
          have hne1 : w.heap.size ≠ w.heap.size + 1 := by omega
          have hne2 : w.heap.size + 1 ≠ w.heap.size := by omega
          have F2 := (B5.out.set a0 a1).far (.int .i64 c0) (.int .i64 c1) hne1
          have F3 := (C5.out.far (.int .i64 a0) (.int .i64 a1) hne2).set c0 c1
          obtain ⟨⟨s0, s1⟩, -, -⟩ := Blk2.open_ F2
          obtain ⟨⟨t0, t1⟩, -, -⟩ := Blk2.open_ F3
          have HF := Lib.hid (below_set2 (x := (.int .i64 c0)) (y := (.int .i64 c1)) (r := w.heap.size + 1) (below_set2 (x := (.int .i64 a0)) (y := (.int .i64 a1)) (r := w.heap.size) (HB1.out.trans (I5.out.belowN (m := w.heap.size) (by omega))) (Nat.le_refl _)) (Nat.le_succ _))
          clear F2 F3
          go_wp2_with fail
          refine bodyPost_ret (v := .tuple #[(.agg #[.int .i64 a0, .int .i64 a1]), (.agg #[.int .i64 c0, .int .i64 c1])]) (by simp [results, Tryz.results52, go_sem, s0, s1, t0, t1] <;> rfl) rfl ?_
          exact ⟨⟨_, _, _, _, rfl⟩, HF.out⟩
      · have hv' : (v == 0) = false := by simpa using hv
        clear hv
        have hlN := N.out.lt
        have kW := Lib.hid (C22.of M.out N.out)
        have hwg : w.heap.size + 1 < g := by have := B1.out.lt; have := C1.out.lt; omega
        have hq : g ≠ w.heap.size := by omega
        have hq2 : g + 1 ≠ w.heap.size := by omega
        have hq3 : g ≠ w.heap.size + 1 := by omega
        have hq4 : g + 1 ≠ w.heap.size + 1 := by omega
        have HV1 := Lib.hid HX.out.1
        have hB9 : w.heap.size ≠ b := by omega
        have hC9 : w.heap.size + 1 ≠ b := by omega
        have HV2 := Lib.hid HX.out.2
        clear HX
        go_upto_region 12 with (fail)
        go_region_held3 (fun w' => (w'.cell? ⟨g, 0, none⟩ = some (.int .i64 p) ∧ w'.cell? ⟨g, 1, none⟩ = some (.int .i64 q)) ∧ (w'.cell? ⟨g + 1, 0, none⟩ = some (.int .i64 r) ∧ w'.cell? ⟨g + 1, 1, none⟩ = some (.int .i64 s))) (first | with_reducible exact k5.out | with_reducible exact k4.out | with_reducible exact kW.out | with_reducible exact kW.out.drew | with_reducible exact k4.out.drew | with_reducible exact k5.out.drew | with_reducible exact C22.of (X5.out.far _ _ hq) (Y5.out.far _ _ hq2) | with_reducible exact C22.of ((X5.out.far _ _ hq).far _ _ hq3) ((Y5.out.far _ _ hq2).far _ _ hq4) | go_keep) (first | (go_at_call 65; (first | ((with_reducible refine (l01BadFraction_wide n b p q _ HV1.out I.out.src).mono ?_); rintro e w4 ⟨⟨a0, a1, rfl, -⟩, hs4, hg4⟩; have hg4x := Lib.hid hg4; clear hg4) | ((with_reducible refine (l01BadFraction_wide n b p q _ HV1.out I.out.drew.src).mono ?_); rintro e w4 ⟨⟨a0, a1, rfl, -⟩, hs4, hg4⟩; have hg4x := Lib.hid (undrewG hg4); clear hg4)); have I4 := Lib.hid (I.out.turn hs4 hg4x.out); have X4 := Lib.hid (M.out.turn I.out hg5 hg4x.out); have Y4 := Lib.hid (N.out.turn I.out hg6 hg4x.out); have k4 := Lib.hid (C22.of X4.out Y4.out); clear hs4 hg4x) | (go_at_call 65; (first | ((with_reducible refine (l01BadFraction_wide n b r s _ HV2.out I4.out.src).mono ?_); rintro e w5 ⟨⟨c0, c1, rfl, -⟩, hs5, hg5'⟩; have hg5x := Lib.hid hg5'; clear hg5') | ((with_reducible refine (l01BadFraction_wide n b r s _ HV2.out I4.out.drew.src).mono ?_); rintro e w5 ⟨⟨c0, c1, rfl, -⟩, hs5, hg5'⟩; have hg5x := Lib.hid (undrewG hg5'); clear hg5')); have I5 := Lib.hid (I4.out.turn hs5 hg5x.out); have X5 := Lib.hid (X4.out.turn I4.out hg5 hg5x.out); have Y5 := Lib.hid (Y4.out.turn I4.out hg6 hg5x.out); have k5 := Lib.hid (C22.of X5.out Y5.out); have B5 := Lib.hid (B1.out.grown I5.out hB9); have C5 := Lib.hid (C1.out.grown I5.out hC9); have y5 := Blk2.open_ B5.out; obtain ⟨⟨d0, d1⟩, ⟨e0, e1⟩, hl5⟩ := y5; have y6 := Blk2.open_ C5.out; obtain ⟨⟨m0, m1⟩, ⟨n0, n1⟩, hl6⟩ := y6; clear hs5 hg5x))
        all_goals
          have hne1 : w.heap.size ≠ w.heap.size + 1 := by omega
          have hne2 : w.heap.size + 1 ≠ w.heap.size := by omega
          have F2 := (B5.out.set a0 a1).far (.int .i64 c0) (.int .i64 c1) hne1
          have F3 := (C5.out.far (.int .i64 a0) (.int .i64 a1) hne2).set c0 c1
          obtain ⟨⟨s0, s1⟩, -, -⟩ := Blk2.open_ F2
          obtain ⟨⟨t0, t1⟩, -, -⟩ := Blk2.open_ F3
          have HF := Lib.hid (below_set2 (x := (.int .i64 c0)) (y := (.int .i64 c1)) (r := w.heap.size + 1) (below_set2 (x := (.int .i64 a0)) (y := (.int .i64 a1)) (r := w.heap.size) (HB1.out.trans (I5.out.belowN (m := w.heap.size) (by omega))) (Nat.le_refl _)) (Nat.le_succ _))
          clear F2 F3
          go_wp2_with fail
          refine bodyPost_ret (v := .tuple #[(.agg #[.int .i64 a0, .int .i64 a1]), (.agg #[.int .i64 c0, .int .i64 c1])]) (by simp [results, Tryz.results52, go_sem, s0, s1, t0, t1] <;> rfl) rfl ?_
          exact ⟨⟨_, _, _, _, rfl⟩, HF.out⟩
    · have hu1' : (u == 1) = false := by simpa using hu1
      clear hu1
      have hlN := N.out.lt
      have kW := Lib.hid (C22.of M.out N.out)
      have hwg : w.heap.size + 1 < g := by have := B1.out.lt; have := C1.out.lt; omega
      have hq : g ≠ w.heap.size := by omega
      have hq2 : g + 1 ≠ w.heap.size := by omega
      have hq3 : g ≠ w.heap.size + 1 := by omega
      have hq4 : g + 1 ≠ w.heap.size + 1 := by omega
      have HV1 := Lib.hid HX.out.1
      have hB9 : w.heap.size ≠ b := by omega
      have hC9 : w.heap.size + 1 ≠ b := by omega
      have HV2 := Lib.hid HX.out.2
      clear HX
      go_upto_region 12 with (fail)
      go_region_held3 (fun w' => (w'.cell? ⟨g, 0, none⟩ = some (.int .i64 p) ∧ w'.cell? ⟨g, 1, none⟩ = some (.int .i64 q)) ∧ (w'.cell? ⟨g + 1, 0, none⟩ = some (.int .i64 r) ∧ w'.cell? ⟨g + 1, 1, none⟩ = some (.int .i64 s))) (first | with_reducible exact k5.out | with_reducible exact k4.out | with_reducible exact kW.out | with_reducible exact kW.out.drew | with_reducible exact k4.out.drew | with_reducible exact k5.out.drew | with_reducible exact C22.of (X5.out.far _ _ hq) (Y5.out.far _ _ hq2) | with_reducible exact C22.of ((X5.out.far _ _ hq).far _ _ hq3) ((Y5.out.far _ _ hq2).far _ _ hq4) | go_keep) (first | (go_at_call 65; (first | ((with_reducible refine (l01BadFraction_wide n b p q _ HV1.out I.out.src).mono ?_); rintro e w4 ⟨⟨a0, a1, rfl, -⟩, hs4, hg4⟩; have hg4x := Lib.hid hg4; clear hg4) | ((with_reducible refine (l01BadFraction_wide n b p q _ HV1.out I.out.drew.src).mono ?_); rintro e w4 ⟨⟨a0, a1, rfl, -⟩, hs4, hg4⟩; have hg4x := Lib.hid (undrewG hg4); clear hg4)); have I4 := Lib.hid (I.out.turn hs4 hg4x.out); have X4 := Lib.hid (M.out.turn I.out hg5 hg4x.out); have Y4 := Lib.hid (N.out.turn I.out hg6 hg4x.out); have k4 := Lib.hid (C22.of X4.out Y4.out); clear hs4 hg4x) | (go_at_call 65; (first | ((with_reducible refine (l01BadFraction_wide n b r s _ HV2.out I4.out.src).mono ?_); rintro e w5 ⟨⟨c0, c1, rfl, -⟩, hs5, hg5'⟩; have hg5x := Lib.hid hg5'; clear hg5') | ((with_reducible refine (l01BadFraction_wide n b r s _ HV2.out I4.out.drew.src).mono ?_); rintro e w5 ⟨⟨c0, c1, rfl, -⟩, hs5, hg5'⟩; have hg5x := Lib.hid (undrewG hg5'); clear hg5')); have I5 := Lib.hid (I4.out.turn hs5 hg5x.out); have X5 := Lib.hid (X4.out.turn I4.out hg5 hg5x.out); have Y5 := Lib.hid (Y4.out.turn I4.out hg6 hg5x.out); have k5 := Lib.hid (C22.of X5.out Y5.out); have B5 := Lib.hid (B1.out.grown I5.out hB9); have C5 := Lib.hid (C1.out.grown I5.out hC9); have y5 := Blk2.open_ B5.out; obtain ⟨⟨d0, d1⟩, ⟨e0, e1⟩, hl5⟩ := y5; have y6 := Blk2.open_ C5.out; obtain ⟨⟨m0, m1⟩, ⟨n0, n1⟩, hl6⟩ := y6; clear hs5 hg5x))
      all_goals
        have hne1 : w.heap.size ≠ w.heap.size + 1 := by omega
        have hne2 : w.heap.size + 1 ≠ w.heap.size := by omega
        have F2 := (B5.out.set a0 a1).far (.int .i64 c0) (.int .i64 c1) hne1
        have F3 := (C5.out.far (.int .i64 a0) (.int .i64 a1) hne2).set c0 c1
        obtain ⟨⟨s0, s1⟩, -, -⟩ := Blk2.open_ F2
        obtain ⟨⟨t0, t1⟩, -, -⟩ := Blk2.open_ F3
        have HF := Lib.hid (below_set2 (x := (.int .i64 c0)) (y := (.int .i64 c1)) (r := w.heap.size + 1) (below_set2 (x := (.int .i64 a0)) (y := (.int .i64 a1)) (r := w.heap.size) (HB1.out.trans (I5.out.belowN (m := w.heap.size) (by omega))) (Nat.le_refl _)) (Nat.le_succ _))
        clear F2 F3
        go_wp2_with fail
        refine bodyPost_ret (v := .tuple #[(.agg #[.int .i64 a0, .int .i64 a1]), (.agg #[.int .i64 c0, .int .i64 c1])]) (by simp [results, Tryz.results52, go_sem, s0, s1, t0, t1] <;> rfl) rfl ?_
        exact ⟨⟨_, _, _, _, rfl⟩, HF.out⟩
end Go.Proofs.YtjnkogkpdbgohaaGreatDoor
