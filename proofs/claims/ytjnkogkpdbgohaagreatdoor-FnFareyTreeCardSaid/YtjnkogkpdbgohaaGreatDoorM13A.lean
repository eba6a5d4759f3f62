/- Draws for the law of Farey's tree: numbers, positive fractions. -/
import Derived.Test.YtjnkogkpdbgohaaGreatDoorM2
import Derived.Test.YtjnkogkpdbgohaaGreatDoorM7
namespace Go.Proofs.YtjnkogkpdbgohaaGreatDoor
open Go.RowKit
theorem DrawFareyRow_any (a : Option Addr) (len cap : Nat) (w : World) (hl : len ≤ 1152921504606846976) (hb : Bytes w w.heap.size a len) :
    Calls Tryz.prog 5 #[.slice a len cap] w fun e w' => RetI e ∧ Below w.heap.size w w' := by
  have HF := Lib.hid (l01From_any a len cap w hl hb)
  clear hb
  go_enter Tryz.func5, Tryz.ntmps5
  go_wp2_with fail
  refine (HF.out).mono ?_; rintro e w1 ⟨b, rfl, hs1, hb1⟩
  have HS1 := Lib.hid hs1
  have HB1 := Lib.hid hb1
  clear hs1 hb1 HF
  go_wp2_with fail
  refine (l01Near_any _ b 19 w1 (by omega) HS1.out).mono ?_; rintro e w2 ⟨y, rfl, hy, hs2, hg2⟩
  have HB2 := Lib.hid (grown_below HB1.out HS1.out hg2)
  clear hs2 hg2
  go_wp2_with fail
  go_ret
  exact ⟨⟨_, rfl⟩, HB2.out⟩
theorem DrawTierOf_any (a : Option Addr) (len cap : Nat) (w : World) (hl : len ≤ 1152921504606846976) (hb : Bytes w w.heap.size a len) :
    Calls Tryz.prog 25 #[.slice a len cap] w fun e w' => RetI e ∧ Below w.heap.size w w' := by
  have HF := Lib.hid (l01From_any a len cap w hl hb)
  clear hb
  go_enter Tryz.func25, Tryz.ntmps25
  go_wp2_with fail
  refine (HF.out).mono ?_; rintro e w1 ⟨b, rfl, hs1, hb1⟩
  have HS1 := Lib.hid hs1
  have HB1 := Lib.hid hb1
  clear hs1 hb1 HF
  go_wp2_with fail
  refine (l01Near_any _ b 7 w1 (by omega) HS1.out).mono ?_; rintro e w2 ⟨y, rfl, hy, hs2, hg2⟩
  have HB2 := Lib.hid (grown_below HB1.out HS1.out hg2)
  clear hs2 hg2
  go_wp2_with fail
  go_ret
  exact ⟨⟨_, rfl⟩, HB2.out⟩
theorem DrawCountInRow_any (a : Option Addr) (len cap : Nat) (w : World) (hl : len ≤ 1152921504606846976) (hb : Bytes w w.heap.size a len) :
    Calls Tryz.prog 30 #[.slice a len cap] w fun e w' => RetI e ∧ Below w.heap.size w w' := by
  have HF := Lib.hid (l01From_any a len cap w hl hb)
  clear hb
  go_enter Tryz.func30, Tryz.ntmps30
  go_wp2_with fail
  refine (HF.out).mono ?_; rintro e w1 ⟨b, rfl, hs1, hb1⟩
  have HS1 := Lib.hid hs1
  have HB1 := Lib.hid hb1
  clear hs1 hb1 HF
  go_wp2_with fail
  refine (pick_lit [20, 100, 300] rfl HS1.out rfl (by simp) (by simp)).mono ?_; rintro e w2 ⟨x, rfl, hx, hs2, hg2⟩
  have hx2 : 0 ≤ x ∧ x ≤ 1000000 := by simp at hx; omega
  have HB2 := Lib.hid (grown_below HB1.out HS1.out hg2)
  have HS2 := Lib.hid hs2
  clear hs2 hg2 hx
  go_wp2_with fail
  refine (l01Near_any _ b x w2 hx2 HS2.out).mono ?_; rintro e w3 ⟨y, rfl, hy, hs3, hg3⟩
  have HB3 := Lib.hid (grown_below HB2.out HS2.out hg3)
  clear hs3 hg3
  go_wp2_with fail
  go_ret
  exact ⟨⟨_, rfl⟩, HB3.out⟩
def RetFr (e : Ending) : Prop := ∃ p q : Int, e = .returned (.agg #[.int .i64 p, .int .i64 q])
theorem red_w {p q : Int} (h : 0 < q) (h1 : q ≤ 1000000) (p0 : -1000000 ≤ p) (p1 : p ≤ 1000000) : WFrac (fx p q) (fy p q) := (sfrac_red h h1 p0 p1).w
set_option maxRecDepth 1000000 in
set_option maxHeartbeats 8000000 in
theorem l03Positive_any (a : Option Addr) (len cap : Nat) (w : World) (hl : len ≤ 1152921504606846976) (hb : Bytes w w.heap.size a len) :
    Calls Tryz.prog 43 #[.slice a len cap] w fun e w' => RetFr e ∧ Below w.heap.size w w' := by
  have hA : Below w.heap.size w (w.alloc (.cells #[(.int .i64 0), (.int .i64 0)] 34)) := (Below.refl _ w).alloc (Nat.le_refl _) _
  have HF := Lib.hid (l01From_any a len cap _ hl (hb.after hA))
  have HA := Lib.hid hA
  clear hb hA
  go_enter Tryz.func43, Tryz.ntmps43
  go_wp2_with fail
  refine (HF.out).mono ?_; rintro e w1 ⟨b, rfl, hs1, hb1⟩
  have HB1 := Lib.hid (bfin HA.out hb1)
  have B1 := Lib.hid ((Bf.new (w := w) (p := 0) (q := 0)).below hb1)
  have I := Lib.hid (InS.start hs1)
  have hbn : w.heap.size + 1 ≤ b := by have := hs1.ge; simpa using this
  have hbw : b < w1.heap.size := hs1.lt
  generalize hnn : (w.alloc (.cells #[(.int .i64 0), (.int .i64 0)] 34)).heap.size = n at *
  clear HF HA hs1 hb1 hnn
  go_wp2_with fail
  refine (pick_lit [9, 40, 300, 10000] rfl I.out.src rfl (by simp) (by simp)).mono ?_; rintro e w2 ⟨x, rfl, hx, hs, hg⟩
  replace I := Lib.hid (I.out.turn hs hg)
  clear hs hg
  have hx2 : 9 ≤ x ∧ x ≤ 10000 := by simp at hx; omega
  clear hx
  go_wp2_with fail
  refine (l01Next_any n b x _ (by omega) I.out.src).mono ?_; rintro e w3 ⟨y, rfl, hy, hs, hg⟩
  replace I := Lib.hid (I.out.turn hs hg)
  clear hs hg
  have hy2 : 0 ≤ y ∧ y ≤ 10000 := by omega
  clear hy
  go_wp2_with fail
  refine (pick_lit [9, 40, 300] rfl I.out.src rfl (by simp) (by simp)).mono ?_; rintro e w4 ⟨x', rfl, hx, hs, hg⟩
  replace I := Lib.hid (I.out.turn hs hg)
  clear hs hg
  have hx3 : 9 ≤ x' ∧ x' ≤ 300 := by simp at hx; omega
  clear hx
  go_wp2_with fail
  refine (l01Next_any n b x' _ (by omega) I.out.src).mono ?_; rintro e w5 ⟨z, rfl, hz, hs, hg⟩
  replace I := Lib.hid (I.out.turn hs hg)
  clear hs hg
  have hz2 : 0 ≤ z ∧ z ≤ 300 := by omega
  clear hz
  have HR := Lib.hid (fun W => l01Reduced_any (1 + y) (1 + z) W (by omega) (by omega) (by omega) (by omega))
  have HX := Lib.hid (red_w (p := 1 + y) (q := 1 + z) (by omega) (by omega) (by omega) (by omega))
  generalize fx (1 + y) (1 + z) = p at *
  generalize fy (1 + y) (1 + z) = q at *
  go_wp2_with fail
  refine (HR.out _).mono ?_; rintro e w6 ⟨rfl, hb⟩
  replace I := Lib.hid (I.out.below hb)
  clear hb
  clear HR hx2 hx3 hy2 hz2
  have hg5 : w1.heap.size ≤ w6.heap.size := I.out.size
  have M := Lib.hid (Bf.new (w := w6) (p := p) (q := q))
  replace I := Lib.hid (I.out.alloc (.cells #[(.int .i64 p), (.int .i64 q)] 34))
  go_upto_region 3 with (fail)
  generalize w6.alloc (.cells #[(.int .i64 p), (.int .i64 q)] 34) = W at *
  generalize w6.heap.size = g at *
  have hww : w.heap.size ≤ w1.heap.size := HB1.out.size
  go_wp2_with fail
  refine (l01Next_any n b 12 _ (by omega) I.out.src).mono ?_; rintro e w7 ⟨u, rfl, -, hs, hg⟩
  replace M := Lib.hid (M.out.turn I.out (hg5) hg)
  replace I := Lib.hid (I.out.turn hs hg)
  clear hs hg
  by_cases h0 : u = 0
  · subst h0
    go_wp2_with fail
    refine (l01DrawFraction_any n b _ I.out.src).mono ?_; rintro e w8 ⟨⟨r, s, rfl, hrs⟩, hs, hg⟩
    replace M := Lib.hid (M.out.turn I.out (hg5) hg)
    replace I := Lib.hid (I.out.turn hs hg)
    clear hs hg
    obtain ⟨⟨x0, x1⟩, ⟨y0, y1⟩, hlx⟩ := Blk2.open_ M.out
    have HX2 := Lib.hid hrs.w
    replace M := Lib.hid (M.out.set r s)
    replace I := Lib.hid (I.out.set2 (.int .i64 r) (.int .i64 s) hg5)
    clear hrs
    go_upto_region 8 with (fail)
    try clear x0 x1 y0 y1 hlx
    obtain ⟨⟨m0, m1⟩, -, hlm⟩ := Blk2.open_ M.out
    go_wp2_with fail
    refine (l01BadFraction_wide n b r s _ HX2.out I.out.src).mono ?_; rintro e w9 ⟨⟨x2, y2, rfl, -⟩, hs, hg⟩
    replace I := Lib.hid (I.out.turn hs hg)
    clear hs hg
    have Z := Lib.hid (B1.out.grown I.out (by omega))
    have T := Lib.hid (HB1.out.trans (I.out.belowN (m := w.heap.size) (by omega)))
    obtain ⟨⟨z0, z1⟩, ⟨z2, z3⟩, hlz⟩ := Blk2.open_ Z.out
    clear m0 m1 hlm M I
    go_wp2_with fail
    refine bodyPost_ret (v := (.agg #[.int .i64 x2, .int .i64 y2])) (by first | (simp [results, Tryz.results43, go_sem]; done) | (simp [results, Tryz.results43, go_sem, set2_0 Z.out, set2_1 Z.out] <;> rfl)) rfl ⟨⟨_, _, rfl⟩, (T.out.setCell (p := ⟨w.heap.size, 0, none⟩) (Nat.le_refl _) _).setCell (p := ⟨w.heap.size, 1, none⟩) (Nat.le_refl _) _⟩
  have h0' : (u == 0) = false := by simpa using h0
  by_cases h1 : u = 1
  · subst h1
    go_wp2_with fail
    refine (pick_lit [10001, 1] rfl I.out.src rfl (by simp) (by simp)).mono ?_; rintro e w8 ⟨r, rfl, hr, hs, hg⟩
    replace M := Lib.hid (M.out.turn I.out (hg5) hg)
    replace I := Lib.hid (I.out.turn hs hg)
    clear hs hg
    have hr2 : 1 ≤ r ∧ r ≤ 10001 := by simp at hr; omega
    obtain ⟨⟨x0, x1⟩, ⟨y0, y1⟩, hlx⟩ := Blk2.open_ M.out
    have HX2 := Lib.hid (show WFrac r 1 by unfold WFrac; omega)
    replace M := Lib.hid (M.out.set r 1)
    replace I := Lib.hid (I.out.set2 (.int .i64 r) (.int .i64 1) hg5)
    clear hr hr2
    go_upto_region 8 with (fail)
    try clear x0 x1 y0 y1 hlx
    obtain ⟨⟨m0, m1⟩, -, hlm⟩ := Blk2.open_ M.out
    go_wp2_with fail
    refine (l01BadFraction_wide n b r 1 _ HX2.out I.out.src).mono ?_; rintro e w9 ⟨⟨x2, y2, rfl, -⟩, hs, hg⟩
    replace I := Lib.hid (I.out.turn hs hg)
    clear hs hg
    have Z := Lib.hid (B1.out.grown I.out (by omega))
    have T := Lib.hid (HB1.out.trans (I.out.belowN (m := w.heap.size) (by omega)))
    obtain ⟨⟨z0, z1⟩, ⟨z2, z3⟩, hlz⟩ := Blk2.open_ Z.out
    clear m0 m1 hlm M I
    go_wp2_with fail
    refine bodyPost_ret (v := (.agg #[.int .i64 x2, .int .i64 y2])) (by first | (simp [results, Tryz.results43, go_sem]; done) | (simp [results, Tryz.results43, go_sem, set2_0 Z.out, set2_1 Z.out] <;> rfl)) rfl ⟨⟨_, _, rfl⟩, (T.out.setCell (p := ⟨w.heap.size, 0, none⟩) (Nat.le_refl _) _).setCell (p := ⟨w.heap.size, 1, none⟩) (Nat.le_refl _) _⟩
  · have h1' : (u == 1) = false := by simpa using h1
    have HX2 := Lib.hid HX.out
    clear h0 h1
    go_upto_region 8 with (fail)
    try clear x0 x1 y0 y1 hlx
    obtain ⟨⟨m0, m1⟩, -, hlm⟩ := Blk2.open_ M.out
    go_wp2_with fail
    refine (l01BadFraction_wide n b p q _ HX2.out I.out.src).mono ?_; rintro e w8 ⟨⟨x2, y2, rfl, -⟩, hs, hg⟩
    replace I := Lib.hid (I.out.turn hs hg)
    clear hs hg
    have Z := Lib.hid (B1.out.grown I.out (by omega))
    have T := Lib.hid (HB1.out.trans (I.out.belowN (m := w.heap.size) (by omega)))
    obtain ⟨⟨z0, z1⟩, ⟨z2, z3⟩, hlz⟩ := Blk2.open_ Z.out
    clear m0 m1 hlm M I
    go_wp2_with fail
    refine bodyPost_ret (v := (.agg #[.int .i64 x2, .int .i64 y2])) (by first | (simp [results, Tryz.results43, go_sem]; done) | (simp [results, Tryz.results43, go_sem, set2_0 Z.out, set2_1 Z.out] <;> rfl)) rfl ⟨⟨_, _, rfl⟩, (T.out.setCell (p := ⟨w.heap.size, 0, none⟩) (Nat.le_refl _) _).setCell (p := ⟨w.heap.size, 1, none⟩) (Nat.le_refl _) _⟩
set_option maxRecDepth 100000 in
theorem DrawPathOf_any (a : Option Addr) (len cap : Nat) (w : World) (hl : len ≤ 1152921504606846976) (hb : Bytes w w.heap.size a len) :
    Calls Tryz.prog 12 #[.slice a len cap] w fun e w' => RetFr e ∧ Below w.heap.size w w' := by
  have hA : Below w.heap.size w (w.alloc (.cells #[(.int .i64 0), (.int .i64 0)] 34)) := (Below.refl _ w).alloc (Nat.le_refl _) _
  have HF := Lib.hid (l03Positive_any a len cap _ hl (hb.after hA))
  have HA := Lib.hid hA
  clear hb hA
  go_enter Tryz.func12, Tryz.ntmps12
  go_wp2_with fail
  refine (HF.out).mono ?_; rintro e w1 ⟨⟨p, q, rfl⟩, hb1⟩
  have T := Lib.hid (bfin HA.out hb1)
  have Z := Lib.hid (show Blk2 w1 w.heap.size 34 0 0 from heap_below heap_new hb1)
  obtain ⟨⟨z0, z1⟩, ⟨z2, z3⟩, hlz⟩ := Blk2.open_ Z.out
  clear HF HA hb1
  go_wp2_with fail
  refine bodyPost_ret (v := (.agg #[.int .i64 p, .int .i64 q])) (by first | (simp [results, Tryz.results12, go_sem]; done) | (simp [results, Tryz.results12, go_sem, set2_0 Z.out, set2_1 Z.out] <;> rfl)) rfl ⟨⟨_, _, rfl⟩, (T.out.setCell (p := ⟨w.heap.size, 0, none⟩) (Nat.le_refl _) _).setCell (p := ⟨w.heap.size, 1, none⟩) (Nat.le_refl _) _⟩
def RetNFr (e : Ending) : Prop := ∃ n p q : Int, e = .returned (.tuple #[(.int .i64 n), (.agg #[.int .i64 p, .int .i64 q])])
set_option maxRecDepth 1000000 in
set_option maxHeartbeats 8000000 in
theorem DrawNextInRow_any (a : Option Addr) (len cap : Nat) (w : World) (hl : len ≤ 1152921504606846976) (hb : Bytes w w.heap.size a len) :
    Calls Tryz.prog 28 #[.slice a len cap] w fun e w' => RetNFr e ∧ Below w.heap.size w w' := by
  have hA : Below w.heap.size w (w.alloc (.cells #[(.int .i64 0), (.int .i64 0)] 34)) := (Below.refl _ w).alloc (Nat.le_refl _) _
  have HF := Lib.hid (l01From_any a len cap _ hl (hb.after hA))
  have HA := Lib.hid hA
  clear hb hA
  go_enter Tryz.func28, Tryz.ntmps28
  go_wp2_with fail
  refine (HF.out).mono ?_; rintro e w1 ⟨b, rfl, hs1, hb1⟩
  have HB1 := Lib.hid (bfin HA.out hb1)
  have B1 := Lib.hid ((Bf.new (w := w) (p := 0) (q := 0)).below hb1)
  have I := Lib.hid (InS.start hs1)
  have hbn : w.heap.size + 1 ≤ b := by have := hs1.ge; simpa using this
  have hbw : b < w1.heap.size := hs1.lt
  generalize hnn : (w.alloc (.cells #[(.int .i64 0), (.int .i64 0)] 34)).heap.size = n at *
  clear HF HA hs1 hb1 hnn
  go_wp2_with fail
  refine (pick_lit [5, 20, 300] rfl I.out.src rfl (by simp) (by simp)).mono ?_; rintro e w2 ⟨x, rfl, hx, hs, hg⟩
  replace I := Lib.hid (I.out.turn hs hg)
  clear hs hg
  have hx2 : 5 ≤ x ∧ x ≤ 300 := by simp at hx; omega
  clear hx
  go_wp2_with fail
  refine (l01Next_any n b x _ (by omega) I.out.src).mono ?_; rintro e w3 ⟨y, rfl, hy, hs, hg⟩
  replace I := Lib.hid (I.out.turn hs hg)
  clear hs hg
  have hy2 : 0 ≤ y ∧ y ≤ 300 := by omega
  clear hy
  go_wp2_with fail
  refine (l01Next_any n b (1 + y) _ (by omega) I.out.src).mono ?_; rintro e w4 ⟨z, rfl, hz, hs, hg⟩
  replace I := Lib.hid (I.out.turn hs hg)
  clear hs hg
  have hz2 : 0 ≤ z ∧ z ≤ 301 := by omega
  clear hz
  go_wp2_with fail
  refine (l01Next_any n b (1 + z + 1) _ (by omega) I.out.src).mono ?_; rintro e w5 ⟨u, rfl, hu, hs, hg⟩
  replace I := Lib.hid (I.out.turn hs hg)
  clear hs hg
  have hu2 : 0 ≤ u ∧ u ≤ 303 := by omega
  clear hu
  have HR := Lib.hid (fun W => l01Reduced_any u (1 + z) W (by omega) (by omega) (by omega) (by omega))
  have HX := Lib.hid (red_w (p := u) (q := 1 + z) (by omega) (by omega) (by omega) (by omega))
  generalize fx u (1 + z) = p at *
  generalize fy u (1 + z) = q at *
  go_wp2_with fail
  refine (HR.out _).mono ?_; rintro e w6 ⟨rfl, hb⟩
  replace I := Lib.hid (I.out.below hb)
  clear hb
  clear HR hx2 hz2 hu2
  have hg5 : w1.heap.size ≤ w6.heap.size := I.out.size
  have M := Lib.hid (Bf.new (w := w6) (p := p) (q := q))
  replace I := Lib.hid (I.out.alloc (.cells #[(.int .i64 p), (.int .i64 q)] 34))
  go_upto_region 5 with (fail)
  generalize w6.alloc (.cells #[(.int .i64 p), (.int .i64 q)] 34) = W at *
  generalize w6.heap.size = g at *
  have hww : w.heap.size ≤ w1.heap.size := HB1.out.size
  go_wp2_with fail
  refine (l01Next_any n b 16 _ (by omega) I.out.src).mono ?_; rintro e w7 ⟨v, rfl, -, hs, hg⟩
  replace M := Lib.hid (M.out.turn I.out (hg5) hg)
  replace I := Lib.hid (I.out.turn hs hg)
  clear hs hg
  by_cases h0 : v = 0
  · subst h0
    go_wp2_with fail
    refine (pick_lit [0, 1001, 1] rfl I.out.src rfl (by simp) (by simp)).mono ?_; rintro e w8 ⟨r, rfl, -, hs, hg⟩
    replace M := Lib.hid (M.out.turn I.out (hg5) hg)
    replace I := Lib.hid (I.out.turn hs hg)
    clear hs hg
    go_upto_region 7 with (fail)
    obtain ⟨⟨m0, m1⟩, -, hlm⟩ := Blk2.open_ M.out
    go_wp2_with fail
    refine (l01BadFraction_wide n b p q _ HX.out I.out.src).mono ?_; rintro e w9 ⟨⟨x2, y2, rfl, -⟩, hs, hg⟩
    replace I := Lib.hid (I.out.turn hs hg)
    clear hs hg
    have Z := Lib.hid (B1.out.grown I.out (by omega))
    have T := Lib.hid (HB1.out.trans (I.out.belowN (m := w.heap.size) (by omega)))
    obtain ⟨⟨z0, z1⟩, ⟨z2, z3⟩, hlz⟩ := Blk2.open_ Z.out
    clear m0 m1 hlm M I
    go_wp2_with fail
    refine bodyPost_ret (v := .tuple #[(.int .i64 r), (.agg #[.int .i64 x2, .int .i64 y2])]) (by first | (simp [results, Tryz.results28, go_sem]; done) | (simp [results, Tryz.results28, go_sem, set2_0 Z.out, set2_1 Z.out] <;> rfl)) rfl ⟨⟨_, _, _, rfl⟩, (T.out.setCell (p := ⟨w.heap.size, 0, none⟩) (Nat.le_refl _) _).setCell (p := ⟨w.heap.size, 1, none⟩) (Nat.le_refl _) _⟩
  · have h0' : (v == 0) = false := by simpa using h0
    clear h0
    go_upto_region 7 with (fail)
    obtain ⟨⟨m0, m1⟩, -, hlm⟩ := Blk2.open_ M.out
    go_wp2_with fail
    refine (l01BadFraction_wide n b p q _ HX.out I.out.src).mono ?_; rintro e w8 ⟨⟨x2, y2, rfl, -⟩, hs, hg⟩
    replace I := Lib.hid (I.out.turn hs hg)
    clear hs hg
    have Z := Lib.hid (B1.out.grown I.out (by omega))
    have T := Lib.hid (HB1.out.trans (I.out.belowN (m := w.heap.size) (by omega)))
    obtain ⟨⟨z0, z1⟩, ⟨z2, z3⟩, hlz⟩ := Blk2.open_ Z.out
    clear m0 m1 hlm M I
    go_wp2_with fail
    refine bodyPost_ret (v := .tuple #[(.int .i64 (1 + y)), (.agg #[.int .i64 x2, .int .i64 y2])]) (by first | (simp [results, Tryz.results28, go_sem]; done) | (simp [results, Tryz.results28, go_sem, set2_0 Z.out, set2_1 Z.out] <;> rfl)) rfl ⟨⟨_, _, _, rfl⟩, (T.out.setCell (p := ⟨w.heap.size, 0, none⟩) (Nat.le_refl _) _).setCell (p := ⟨w.heap.size, 1, none⟩) (Nat.le_refl _) _⟩
end Go.Proofs.YtjnkogkpdbgohaaGreatDoor
