/- Draws for the law of Farey's tree: pairs of fractions. -/
import Derived.Test.YtjnkogkpdbgohaaGreatDoorM13A
import Derived.Test.YtjnkogkpdbgohaaGreatDoorM11
namespace Go.Proofs.YtjnkogkpdbgohaaGreatDoor
open Go.RowKit
set_option maxRecDepth 1000000 in
set_option maxHeartbeats 4000000 in
theorem DrawMediantOf_any (a : Option Addr) (len cap : Nat) (w : World) (hl : len ≤ 1152921504606846976) (hb : Bytes w w.heap.size a len) :
    Calls Tryz.prog 20 #[.slice a len cap] w fun e w' => RetFrs e ∧ Below w.heap.size w w' := by
  have hA : Below w.heap.size w ((w.alloc (.cells #[(.int .i64 0), (.int .i64 0)] 34)).alloc (.cells #[(.int .i64 0), (.int .i64 0)] 34)) := ((Below.refl _ w).alloc (Nat.le_refl _) _).alloc (by simp) _
  have HF := Lib.hid (l03Pair_any a len cap _ hl (hb.after hA))
  have HA := Lib.hid hA
  clear hb hA
  go_enter Tryz.func20, Tryz.ntmps20
  go_wp2_with fail
  refine (HF.out).mono ?_; rintro e w1 ⟨⟨p, q, r, s, rfl⟩, hb1⟩
  have HB1 := Lib.hid (bfin HA.out hb1)
  have B1 := Lib.hid (((Bf.new (w := w) (p := 0) (q := 0)).alloc (.cells #[(.int .i64 0), (.int .i64 0)] 34)).below hb1)
  have C1 := Lib.hid ((Bf.newE (g := w.heap.size + 1) (w := w.alloc (.cells #[(.int .i64 0), (.int .i64 0)] 34)) (p := 0) (q := 0) (by simp)).below hb1)
  clear HF HA hb1
  have HWG := Lib.hid C1.out.lt
  have M := Lib.hid ((Bf.new (w := w1) (p := p) (q := q)).alloc (.cells #[(.int .i64 r), (.int .i64 s)] 34))
  have N := Lib.hid (Bf.newE (g := w1.heap.size + 1) (w := w1.alloc (.cells #[(.int .i64 p), (.int .i64 q)] 34)) (p := r) (q := s) (by simp))
  replace B1 := Lib.hid ((B1.out.alloc (.cells #[(.int .i64 p), (.int .i64 q)] 34)).alloc (.cells #[(.int .i64 r), (.int .i64 s)] 34))
  replace C1 := Lib.hid ((C1.out.alloc (.cells #[(.int .i64 p), (.int .i64 q)] 34)).alloc (.cells #[(.int .i64 r), (.int .i64 s)] 34))
  have HB2 := Lib.hid ((HB1.out.alloc HB1.out.size (.cells #[(.int .i64 p), (.int .i64 q)] 34)).alloc (by have := HB1.out.size; simp; omega) (.cells #[(.int .i64 r), (.int .i64 s)] 34))
  go_upto_region 2 with (fail)
  generalize (w1.alloc (.cells #[(.int .i64 p), (.int .i64 q)] 34)).alloc (.cells #[(.int .i64 r), (.int .i64 s)] 34) = W at *
  generalize w1.heap.size = g at *
  obtain ⟨⟨b0, b1⟩, ⟨x0, x1⟩, hlb⟩ := Blk2.open_ B1.out
  obtain ⟨⟨c0, c1⟩, ⟨y0, y1⟩, hlc⟩ := Blk2.open_ C1.out
  have hlN := N.out.lt
  have hwg : w.heap.size + 1 < g := by have := HWG.out; omega
  have kW := Lib.hid (C22.of M.out N.out)
  have hq1 : g ≠ w.heap.size := by omega
  have hq2 : g + 1 ≠ w.heap.size := by omega
  have hq3 : g ≠ w.heap.size + 1 := by omega
  have hq4 : g + 1 ≠ w.heap.size + 1 := by omega
  have hne1 : w.heap.size ≠ w.heap.size + 1 := by omega
  have hne2 : w.heap.size + 1 ≠ w.heap.size := by omega
  have F2 := (B1.out.set p q).far (.int .i64 r) (.int .i64 s) hne1
  have F3 := (C1.out.far (.int .i64 p) (.int .i64 q) hne2).set r s
  have HS := Lib.hid (Blk2.open_ F2)
  have HT := Lib.hid (Blk2.open_ F3)
  have HF := Lib.hid (below_set2 (x := (.int .i64 r)) (y := (.int .i64 s)) (r := w.heap.size + 1) (below_set2 (x := (.int .i64 p)) (y := (.int .i64 q)) (r := w.heap.size) HB2.out (Nat.le_refl _)) (Nat.le_succ _))
  clear F2 F3
  go_region_held3 (fun w' => (w'.cell? ⟨g, 0, none⟩ = some (.int .i64 p) ∧ w'.cell? ⟨g, 1, none⟩ = some (.int .i64 q)) ∧ (w'.cell? ⟨g + 1, 0, none⟩ = some (.int .i64 r) ∧ w'.cell? ⟨g + 1, 1, none⟩ = some (.int .i64 s))) (first | with_reducible exact kW.out | with_reducible exact kW.out.drew | with_reducible exact C22.of (M.out.far _ _ hq1) (N.out.far _ _ hq2) | with_reducible exact (C22.of (M.out.far _ _ hq1) (N.out.far _ _ hq2)).drew | with_reducible exact C22.of (M.out.far _ _ hq3) (N.out.far _ _ hq4) | with_reducible exact (C22.of (M.out.far _ _ hq3) (N.out.far _ _ hq4)).drew | with_reducible exact C22.of ((M.out.far _ _ hq1).far _ _ hq3) ((N.out.far _ _ hq2).far _ _ hq4) | with_reducible exact (C22.of ((M.out.far _ _ hq1).far _ _ hq3) ((N.out.far _ _ hq2).far _ _ hq4)).drew | with_reducible exact C22.of ((M.out.far _ _ hq3).far _ _ hq1) ((N.out.far _ _ hq4).far _ _ hq2) | with_reducible exact (C22.of ((M.out.far _ _ hq3).far _ _ hq1) ((N.out.far _ _ hq4).far _ _ hq2)).drew | go_keep) (fail)
  all_goals
    obtain ⟨⟨s0, s1⟩, -, -⟩ := HS.out
    obtain ⟨⟨t0, t1⟩, -, -⟩ := HT.out
    go_wp2_with fail
    refine bodyPost_ret (v := .tuple #[(.agg #[.int .i64 p, .int .i64 q]), (.agg #[.int .i64 r, .int .i64 s])]) (by simp [results, Tryz.results20, go_sem, s0, s1, t0, t1] <;> rfl) rfl ?_
    first
      | exact ⟨⟨_, _, _, _, rfl⟩, HF.out⟩
      | exact ⟨⟨_, _, _, _, rfl⟩, ⟨HF.out.os, HF.out.tape, HF.out.output, HF.out.size, HF.out.block⟩⟩
end Go.Proofs.YtjnkogkpdbgohaaGreatDoor
