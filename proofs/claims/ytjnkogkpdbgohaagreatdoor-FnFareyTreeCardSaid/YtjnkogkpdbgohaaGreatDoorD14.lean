/- Draws of matrices: any, and spoilt ones. -/
import Derived.Test.YtjnkogkpdbgohaaGreatDoorD13
import Derived.Deep.RegionHeld3
import Derived.Deep.DeepCutAuto
namespace Go.Proofs.YtjnkogkpdbgohaaGreatDoor
open Go.RowKit
def RetA (e : Ending) : Prop := ∃ p q r s : Int, e = .returned (.agg #[.int .i64 p, .int .i64 q, .int .i64 r, .int .i64 s])
theorem l01Small_any (n b : Nat) (w : World) (hs : Src w n b) :
    Calls Tryz.prog 95 #[.pointer (some ⟨b, 0, none⟩)] w fun e w' => RetM e ∧ Src w' n b ∧ w.grownBy w' (some b) := by
  have I0 := Lib.hid ((InS.start hs).alloc (.cells #[(.int .i64 0), (.int .i64 0), (.int .i64 0), (.int .i64 0)] 94))
  clear hs
  go_enter Tryz.func95, Tryz.ntmps95
  go_wp2_with fail
  refine (l01Next_any n b 4 _ (by omega) I0.out.src).mono ?_; rintro e w1 ⟨z, rfl, hz, hs1, hg1⟩
  have I1 := Lib.hid (I0.out.turn hs1 hg1)
  have B1 := Lib.hid ((Bm.new (w := w) (p := 0) (q := 0) (s := 0) (u := 0)).turn I0.out (Nat.le_refl _) hg1)
  clear hs1 hg1 I0
  go_wp2_with fail
  refine (l01DrawWord_any n b z _ (by omega) I1.out.src).mono ?_; rintro e w2 ⟨⟨p, q, r, s, rfl, hem⟩, hs2, hg2⟩
  have I2 := Lib.hid (I1.out.turn hs2 hg2)
  have B2 := Lib.hid (B1.out.turn I1.out (Nat.le_refl _) hg2)
  have HE := Lib.hid hem
  clear hs2 hg2 I1 B1 hem hz
  obtain ⟨⟨c0, c1, c2, c3⟩, ⟨f0, f1, f2, f3⟩, hl3⟩ := B2.out.open_
  go_wp2_with fail
  refine bodyPost_ret (v := (.agg #[.int .i64 p, .int .i64 q, .int .i64 r, .int .i64 s])) (by simp [results, Tryz.results95, go_sem, set4_0 B2.out, set4_1 B2.out, set4_2 B2.out, set4_3 B2.out] <;> rfl) rfl ?_
  have IF := I2.out.set4 (.int .i64 p) (.int .i64 q) (.int .i64 r) (.int .i64 s) (Nat.le_refl w.heap.size)
  exact ⟨⟨_, _, _, _, rfl, HE.out⟩, IF.src, IF.grown⟩
abbrev C8 (w : World) (g : Nat) (p q r s p' q' r' s' : Int) : Prop := (w.cell? ⟨g, 0, none⟩ = some (.int .i64 p) ∧ w.cell? ⟨g, 1, none⟩ = some (.int .i64 q) ∧ w.cell? ⟨g, 2, none⟩ = some (.int .i64 r) ∧ w.cell? ⟨g, 3, none⟩ = some (.int .i64 s)) ∧ (w.cell? ⟨g + 1, 0, none⟩ = some (.int .i64 p') ∧ w.cell? ⟨g + 1, 1, none⟩ = some (.int .i64 q') ∧ w.cell? ⟨g + 1, 2, none⟩ = some (.int .i64 r') ∧ w.cell? ⟨g + 1, 3, none⟩ = some (.int .i64 s'))
theorem C8.of {w : World} {g : Nat} {p q r s p' q' r' s' : Int} (h : Bm w g p q r s) (h' : Bm w (g + 1) p' q' r' s') : C8 w g p q r s p' q' r' s' := ⟨(Blk4.open_ h).1, (Blk4.open_ h').1⟩
theorem keep8 {w w' : World} {g : Nat} {p q r s p' q' r' s' : Int} (h : Bm w g p q r s) (h' : Bm w (g + 1) p' q' r' s') (hb : Below w.heap.size w w') : C8 w' g p q r s p' q' r' s' := C8.of (h.below hb) (h'.below hb)
theorem keep8s {w : World} {g k : Nat} {p q r s p' q' r' s' : Int} {x y z t : Value} (h : Bm w g p q r s) (h' : Bm w (g + 1) p' q' r' s') (h1 : g ≠ k) (h2 : g + 1 ≠ k) : C8 ((((w.setCell ⟨k, 0, none⟩ x).setCell ⟨k, 1, none⟩ y).setCell ⟨k, 2, none⟩ z).setCell ⟨k, 3, none⟩ t) g p q r s p' q' r' s' := C8.of (h.far _ _ _ _ h1) (h'.far _ _ _ _ h2)
theorem row3_of {w : World} {b : Nat} {t : TypeId} {a0 a1 a2 a3 b0 b1 b2 b3 c0 c1 c2 c3 : Int} (h : w.heap[b]? = some (.cells #[(.int .i64 a0), (.int .i64 a1), (.int .i64 a2), (.int .i64 a3), (.int .i64 b0), (.int .i64 b1), (.int .i64 b2), (.int .i64 b3), (.int .i64 c0), (.int .i64 c1), (.int .i64 c2), (.int .i64 c3)] t (0, 0)))
    (ha : EM a0 a1 a2 a3) (hb : EM b0 b1 b2 b3) (hc : EM c0 c1 c2 c3) : Row3 w b := fun k hk => by
  rcases (show k = 0 ∨ k = 1 ∨ k = 2 by omega) with rfl | rfl | rfl
  · exact ⟨_, _, _, _, ha, cell_of_blk h 0, cell_of_blk h 1, cell_of_blk h 2, cell_of_blk h 3⟩
  · exact ⟨_, _, _, _, hb, cell_of_blk h 4, cell_of_blk h 5, cell_of_blk h 6, cell_of_blk h 7⟩
  · exact ⟨_, _, _, _, hc, cell_of_blk h 8, cell_of_blk h 9, cell_of_blk h 10, cell_of_blk h 11⟩
section
variable {B : Nat} {w0 w w' : World} {t : TypeId} {o o' : Obj} {a0 a1 a2 a3 b0 b1 b2 b3 c0 c1 c2 c3 : Int}
theorem row3A (ha : EM a0 a1 a2 a3) (hb : EM b0 b1 b2 b3) (hc : EM c0 c1 c2 c3) : Row3 (w.alloc (.cells #[(.int .i64 a0), (.int .i64 a1), (.int .i64 a2), (.int .i64 a3), (.int .i64 b0), (.int .i64 b1), (.int .i64 b2), (.int .i64 b3), (.int .i64 c0), (.int .i64 c1), (.int .i64 c2), (.int .i64 c3)] t)) w.heap.size := row3_of heap_new ha hb hc
theorem row3Ad (ha : EM a0 a1 a2 a3) (hb : EM b0 b1 b2 b3) (hc : EM c0 c1 c2 c3) : Row3 (w.alloc (.cells #[(.int .i64 a0), (.int .i64 a1), (.int .i64 a2), (.int .i64 a3), (.int .i64 b0), (.int .i64 b1), (.int .i64 b2), (.int .i64 b3), (.int .i64 c0), (.int .i64 c1), (.int .i64 c2), (.int .i64 c3)] t)).drew w.heap.size := row3A ha hb hc
theorem row3B (ha : EM a0 a1 a2 a3) (hb : EM b0 b1 b2 b3) (hc : EM c0 c1 c2 c3) : Row3 ((w.alloc (.cells #[(.int .i64 0), (.int .i64 0), (.int .i64 0), (.int .i64 0)] 94)).alloc (.cells #[(.int .i64 a0), (.int .i64 a1), (.int .i64 a2), (.int .i64 a3), (.int .i64 b0), (.int .i64 b1), (.int .i64 b2), (.int .i64 b3), (.int .i64 c0), (.int .i64 c1), (.int .i64 c2), (.int .i64 c3)] t)) (w.heap.size + 1) := row3_of (heap_new' (by simp)) ha hb hc
theorem row3Bd (ha : EM a0 a1 a2 a3) (hb : EM b0 b1 b2 b3) (hc : EM c0 c1 c2 c3) : Row3 ((w.alloc (.cells #[(.int .i64 0), (.int .i64 0), (.int .i64 0), (.int .i64 0)] 94)).alloc (.cells #[(.int .i64 a0), (.int .i64 a1), (.int .i64 a2), (.int .i64 a3), (.int .i64 b0), (.int .i64 b1), (.int .i64 b2), (.int .i64 b3), (.int .i64 c0), (.int .i64 c1), (.int .i64 c2), (.int .i64 c3)] t)).drew (w.heap.size + 1) := row3B ha hb hc
theorem row3C (ha : EM a0 a1 a2 a3) (hb : EM b0 b1 b2 b3) (hc : EM c0 c1 c2 c3) : Row3 ((w.alloc (.cells #[(.int .i64 a0), (.int .i64 a1), (.int .i64 a2), (.int .i64 a3), (.int .i64 b0), (.int .i64 b1), (.int .i64 b2), (.int .i64 b3), (.int .i64 c0), (.int .i64 c1), (.int .i64 c2), (.int .i64 c3)] t)).alloc (.cells #[(.int .i64 0), (.int .i64 0), (.int .i64 0), (.int .i64 0)] 94)) w.heap.size := row3_of (heap_alloc heap_new) ha hb hc
theorem row3Cd (ha : EM a0 a1 a2 a3) (hb : EM b0 b1 b2 b3) (hc : EM c0 c1 c2 c3) : Row3 ((w.alloc (.cells #[(.int .i64 a0), (.int .i64 a1), (.int .i64 a2), (.int .i64 a3), (.int .i64 b0), (.int .i64 b1), (.int .i64 b2), (.int .i64 b3), (.int .i64 c0), (.int .i64 c1), (.int .i64 c2), (.int .i64 c3)] t)).alloc (.cells #[(.int .i64 0), (.int .i64 0), (.int .i64 0), (.int .i64 0)] 94)).drew w.heap.size := row3C ha hb hc
theorem wayA (h : Below B w0 w) (hB : B ≤ w0.heap.size) (hb : Below w.heap.size w w') : Below B w0 w' := h.trans (hb.mono (Nat.le_trans hB h.size))
theorem wayAd (h : Below B w0 w) (hB : B ≤ w0.heap.size) (hb : Below w.drew.heap.size w.drew w') : Below B w0 w' := h.drew.trans (hb.mono (Nat.le_trans hB h.size))
theorem wayB (h : Below B w0 w) (hB : B ≤ w0.heap.size) (hb : Below (w.alloc o).heap.size (w.alloc o) w') : Below B w0 w' :=
  have h1 := h.alloc (Nat.le_trans hB h.size) o
  wayA h1 hB hb
theorem wayBd (h : Below B w0 w) (hB : B ≤ w0.heap.size) (hb : Below (w.alloc o).drew.heap.size (w.alloc o).drew w') : Below B w0 w' :=
  have h1 := h.alloc (Nat.le_trans hB h.size) o
  wayAd h1 hB hb
theorem wayC (h : Below B w0 w) (hB : B ≤ w0.heap.size) (hb : Below ((w.alloc o).alloc o').heap.size ((w.alloc o).alloc o') w') : Below B w0 w' :=
  have h1 := h.alloc (Nat.le_trans hB h.size) o
  wayB h1 hB hb
theorem wayCd (h : Below B w0 w) (hB : B ≤ w0.heap.size) (hb : Below ((w.alloc o).alloc o').drew.heap.size ((w.alloc o).alloc o').drew w') : Below B w0 w' :=
  have h1 := h.alloc (Nat.le_trans hB h.size) o
  wayBd h1 hB hb
theorem zW (hb : Below (w.alloc (.cells #[(.int .i64 0), (.int .i64 0), (.int .i64 0), (.int .i64 0)] 94)).heap.size (w.alloc (.cells #[(.int .i64 0), (.int .i64 0), (.int .i64 0), (.int .i64 0)] 94)) w') : Bm w' w.heap.size 0 0 0 0 := Bm.new.below hb
theorem zWd (hb : Below (w.alloc (.cells #[(.int .i64 0), (.int .i64 0), (.int .i64 0), (.int .i64 0)] 94)).drew.heap.size (w.alloc (.cells #[(.int .i64 0), (.int .i64 0), (.int .i64 0), (.int .i64 0)] 94)).drew w') : Bm w' w.heap.size 0 0 0 0 := zW (show Below (w.alloc (.cells #[(.int .i64 0), (.int .i64 0), (.int .i64 0), (.int .i64 0)] 94)).heap.size (w.alloc (.cells #[(.int .i64 0), (.int .i64 0), (.int .i64 0), (.int .i64 0)] 94)) w' from ⟨hb.os, hb.tape, hb.output, hb.size, hb.block⟩)
theorem zB (hb : Below ((w.alloc (.cells #[(.int .i64 0), (.int .i64 0), (.int .i64 0), (.int .i64 0)] 94)).alloc o).heap.size ((w.alloc (.cells #[(.int .i64 0), (.int .i64 0), (.int .i64 0), (.int .i64 0)] 94)).alloc o) w') : Bm w' w.heap.size 0 0 0 0 := (Bm.new.alloc o).below hb
theorem zBd (hb : Below ((w.alloc (.cells #[(.int .i64 0), (.int .i64 0), (.int .i64 0), (.int .i64 0)] 94)).alloc o).drew.heap.size ((w.alloc (.cells #[(.int .i64 0), (.int .i64 0), (.int .i64 0), (.int .i64 0)] 94)).alloc o).drew w') : Bm w' w.heap.size 0 0 0 0 := zB (o := o) ⟨hb.os, hb.tape, hb.output, hb.size, hb.block⟩
theorem zC (hb : Below ((w.alloc o).alloc (.cells #[(.int .i64 0), (.int .i64 0), (.int .i64 0), (.int .i64 0)] 94)).heap.size ((w.alloc o).alloc (.cells #[(.int .i64 0), (.int .i64 0), (.int .i64 0), (.int .i64 0)] 94)) w') : Bm w' (w.heap.size + 1) 0 0 0 0 := (Bm.newE (by simp)).below hb
theorem zCd (hb : Below ((w.alloc o).alloc (.cells #[(.int .i64 0), (.int .i64 0), (.int .i64 0), (.int .i64 0)] 94)).drew.heap.size ((w.alloc o).alloc (.cells #[(.int .i64 0), (.int .i64 0), (.int .i64 0), (.int .i64 0)] 94)).drew w') : Bm w' (w.heap.size + 1) 0 0 0 0 := zC (o := o) ⟨hb.os, hb.tape, hb.output, hb.size, hb.block⟩
theorem zD {g : Nat} (h : Bm w g 0 0 0 0) (hb : Below (w.alloc o).heap.size (w.alloc o) w') : Bm w' g 0 0 0 0 := (h.alloc o).below hb
theorem zDd {g : Nat} (h : Bm w g 0 0 0 0) (hb : Below (w.alloc o).drew.heap.size (w.alloc o).drew w') : Bm w' g 0 0 0 0 := zD (o := o) h ⟨hb.os, hb.tape, hb.output, hb.size, hb.block⟩
end
set_option maxRecDepth 1000000 in
set_option maxHeartbeats 8000000 in
theorem l01Draw_any (n b : Nat) (w : World) (hs : Src w n b) :
    Calls Tryz.prog 81 #[.pointer (some ⟨b, 0, none⟩)] w fun e w' => RetM e ∧ Src w' n b ∧ w.grownBy w' (some b) := by
  have I0 := Lib.hid ((InS.start hs).alloc (.cells #[(.int .i64 0), (.int .i64 0), (.int .i64 0), (.int .i64 0)] 94))
  clear hs
  go_enter Tryz.func81, Tryz.ntmps81
  go_wp2_with fail
  refine (l01Next_any n b 6 _ (by omega) I0.out.src).mono ?_; rintro e w1 ⟨z, rfl, -, hs1, hg1⟩
  have I1 := Lib.hid (I0.out.turn hs1 hg1)
  have B1 := Lib.hid ((Bm.new (w := w) (p := 0) (q := 0) (s := 0) (u := 0)).turn I0.out (Nat.le_refl _) hg1)
  clear hs1 hg1 I0
  by_cases hz0 : z = 0
  · subst hz0
    go_wp2_with fail
    refine (l01Next_any n b 20 _ (by omega) I1.out.src).mono ?_; rintro e w2 ⟨x, rfl, hx, hs2, hg2⟩
    have I2 := Lib.hid (I1.out.turn hs2 hg2)
    have B2 := Lib.hid (B1.out.turn I1.out (Nat.le_refl _) hg2)
    clear hs2 hg2 I1 B1
    go_wp2_with fail
    refine (l01DrawWord_any n b x _ (by omega) I2.out.src).mono ?_; rintro e w3 ⟨⟨p, q, r, s, rfl, hem⟩, hs3, hg3⟩
    have I3 := Lib.hid (I2.out.turn hs3 hg3)
    have B3 := Lib.hid (B2.out.turn I2.out (Nat.le_refl _) hg3)
    have HE := Lib.hid hem
    clear hs3 hg3 I2 B2 hem hx
    obtain ⟨⟨c0, c1, c2, c3⟩, ⟨f0, f1, f2, f3⟩, hl3⟩ := B3.out.open_
    go_wp2_with fail
    refine bodyPost_ret (v := (.agg #[.int .i64 p, .int .i64 q, .int .i64 r, .int .i64 s])) (by simp [results, Tryz.results81, go_sem, set4_0 B3.out, set4_1 B3.out, set4_2 B3.out, set4_3 B3.out] <;> rfl) rfl ?_
    have IF := I3.out.set4 (.int .i64 p) (.int .i64 q) (.int .i64 r) (.int .i64 s) (Nat.le_refl w.heap.size)
    exact ⟨⟨_, _, _, _, rfl, HE.out⟩, IF.src, IF.grown⟩
  · have hz0' : (z == 0) = false := by simpa using hz0
    by_cases hz1 : z = 1
    · subst hz1
      go_wp2_with fail
      refine (l01Next_any n b 1000 _ (by omega) I1.out.src).mono ?_; rintro e w2 ⟨x, rfl, hx, hs2, hg2⟩
      have I2 := Lib.hid (I1.out.turn hs2 hg2)
      have B2 := Lib.hid (B1.out.turn I1.out (Nat.le_refl _) hg2)
      have hx2 : 0 ≤ x ∧ x < 1000 := by omega
      clear hs2 hg2 I1 B1 hx
      obtain ⟨⟨c0, c1, c2, c3⟩, ⟨f0, f1, f2, f3⟩, hl3⟩ := B2.out.open_
      go_wp2_with fail
      refine bodyPost_ret (v := (.agg #[.int .i64 1, .int .i64 (x - 500), .int .i64 0, .int .i64 1])) (by simp [results, Tryz.results81, go_sem, set4_0 B2.out, set4_1 B2.out, set4_2 B2.out, set4_3 B2.out] <;> rfl) rfl ?_
      have IF := I2.out.set4 (.int .i64 1) (.int .i64 (x - 500)) (.int .i64 0) (.int .i64 1) (Nat.le_refl w.heap.size)
      exact ⟨⟨_, _, _, _, rfl, ⟨by omega, by omega, by omega, by omega⟩⟩, IF.src, IF.grown⟩
    · have hz1' : (z == 1) = false := by simpa using hz1
      by_cases hz2 : z = 2
      · subst hz2
        go_wp2_with fail
        refine (l01Next_any n b 2 _ (by omega) I1.out.src).mono ?_; rintro e w2 ⟨x, rfl, hx, hs2, hg2⟩
        have I2 := Lib.hid (I1.out.turn hs2 hg2)
        have B2 := Lib.hid (B1.out.turn I1.out (Nat.le_refl _) hg2)
        clear hs2 hg2 I1 B1
        have hx2 : 0 ≤ x ∧ x < 2 := by omega
        clear hx
        go_wp2_with fail
        refine (l01DrawWord_any n b (1 + x) _ (by omega) I2.out.src).mono ?_; rintro e w3 ⟨⟨p, q, r, s, rfl, hem⟩, hs3, hg3⟩
        have I3 := Lib.hid (I2.out.turn hs3 hg3)
        have B3 := Lib.hid (B2.out.turn I2.out (Nat.le_refl _) hg3)
        have HE := Lib.hid hem
        clear hs3 hg3 I2 B2 hem
        go_wp2_with fail
        refine (l01Next_any n b 4 _ (by omega) I3.out.src).mono ?_; rintro e w4 ⟨y, rfl, hy, hs4, hg4⟩
        have I4 := Lib.hid (I3.out.turn hs4 hg4)
        have B4 := Lib.hid (B3.out.turn I3.out (Nat.le_refl _) hg4)
        clear hs4 hg4 I3 B3
        have hy2 : 0 ≤ y ∧ y < 4 := by omega
        clear hy
        go_wp2_with fail
        refine (l01DrawWord_any n b y _ (by omega) I4.out.src).mono ?_; rintro e w5 ⟨⟨p', q', r', s', rfl, hem⟩, hs5, hg5⟩
        have I5 := Lib.hid (((I4.out.turn hs5 hg5).alloc (.cells #[(.int .i64 p), (.int .i64 q), (.int .i64 r), (.int .i64 s)] 94)).alloc (.cells #[(.int .i64 p'), (.int .i64 q'), (.int .i64 r'), (.int .i64 s')] 94))
        have B5' := B4.out.turn I4.out (Nat.le_refl _) hg5
        have hz5 : w.heap.size < w5.heap.size := B5'.lt
        have B5 := Lib.hid ((B5'.alloc (.cells #[(.int .i64 p), (.int .i64 q), (.int .i64 r), (.int .i64 s)] 94)).alloc (.cells #[(.int .i64 p'), (.int .i64 q'), (.int .i64 r'), (.int .i64 s')] 94))
        have M3 := Lib.hid ((Bm.new (w := w5) (p := p) (q := q) (s := r) (u := s)).alloc (.cells #[(.int .i64 p'), (.int .i64 q'), (.int .i64 r'), (.int .i64 s')] 94))
        have M4 := Lib.hid (Bm.newE (g := w5.heap.size + 1) (w := w5.alloc (.cells #[(.int .i64 p), (.int .i64 q), (.int .i64 r), (.int .i64 s)] 94)) (p := p') (q := q') (s := r') (u := s') (by simp))
        have HE2 := Lib.hid hem
        clear B5' hs5 hg5 I4 B4 hem
        go_upto_region 8 with (fail)
        generalize (w5.alloc (.cells #[(.int .i64 p), (.int .i64 q), (.int .i64 r), (.int .i64 s)] 94)).alloc (.cells #[(.int .i64 p'), (.int .i64 q'), (.int .i64 r'), (.int .i64 s')] 94) = W at *
        generalize w5.heap.size = g at *
        have kW := Lib.hid (C8.of M3.out M4.out)
        have hEN := Lib.hid HE2.out.inv
        have hgW : g + 1 < W.heap.size := M4.out.lt
        go_cut [5, 6] from 34 to 42 (fun s5 s6 wx => ∃ (g5 : Nat) (x1 x2 x3 x4 c : Int), s5 = .pointer (some ⟨g5, 0, none⟩) ∧ s6 = (.int .i64 c) ∧ Hid (EM x1 x2 x3 x4) ∧ Hid (Bm wx g5 x1 x2 x3 x4) ∧ Hid (Bm wx w.heap.size 0 0 0 0) ∧ Hid (Bm wx g p q r s) ∧ Hid (InS n b w wx))
        case first =>
         go_region_held3 (fun w' => (w'.cell? ⟨g, 0, none⟩ = some (.int .i64 p) ∧ w'.cell? ⟨g, 1, none⟩ = some (.int .i64 q) ∧ w'.cell? ⟨g, 2, none⟩ = some (.int .i64 r) ∧ w'.cell? ⟨g, 3, none⟩ = some (.int .i64 s)) ∧ (w'.cell? ⟨g + 1, 0, none⟩ = some (.int .i64 p') ∧ w'.cell? ⟨g + 1, 1, none⟩ = some (.int .i64 q') ∧ w'.cell? ⟨g + 1, 2, none⟩ = some (.int .i64 r') ∧ w'.cell? ⟨g + 1, 3, none⟩ = some (.int .i64 s'))) (first | with_reducible exact k7.out | with_reducible exact k6.out | with_reducible exact kW.out | with_reducible exact keep8 N3.out N4.out ((Below.refl _ _).alloc (Nat.le_refl _) _) | with_reducible exact keep8s N3.out N4.out (by omega) (by omega) | with_reducible exact keep8 L3.out L4.out ((Below.refl _ _).alloc (Nat.le_refl _) _) | with_reducible exact keep8 L3.out L4.out ((Below.refl _ _).alloc (Nat.le_refl _) _).drew | with_reducible exact keep8 L3.out L4.out (((Below.refl _ _).alloc (Nat.le_refl _) _).alloc (by simp) _) | with_reducible exact keep8 L3.out L4.out (((Below.refl _ _).alloc (Nat.le_refl _) _).alloc (by simp) _).drew | with_reducible exact keep8 M3.out M4.out ((Below.refl _ _).alloc (Nat.le_refl _) _) | with_reducible exact keep8 M3.out M4.out ((Below.refl _ _).alloc (Nat.le_refl _) _).drew | with_reducible exact keep8 M3.out M4.out (Below.refl _ _).drew) (first | (go_at_call 91; refine (l01Inverse_any p' q' r' s' _ HE2.out).mono ?_; rintro e w6 ⟨rfl, hb6⟩; have T6 := Lib.hid (show Below W.heap.size W w6 by first | with_reducible exact hb6 | with_reducible exact wayAd (Below.refl _ _) (Nat.le_refl _) hb6 | with_reducible exact wayB (Below.refl _ _) (Nat.le_refl _) hb6 | with_reducible exact wayBd (Below.refl _ _) (Nat.le_refl _) hb6); have L3 := Lib.hid (M3.out.below T6.out); have L4 := Lib.hid (M4.out.below T6.out); have k6 := Lib.hid (C8.of L3.out L4.out); have hs6 : W.heap.size ≤ w6.heap.size := T6.out.size; (first | (with_reducible have z6 := Lib.hid (zW hb6)) | (with_reducible have z6 := Lib.hid (zWd hb6)) | skip); clear hb6) | (go_at_call 90; refine (l01Product_any _ _ (by simp <;> omega) (by first | with_reducible exact row3A HE2.out HE.out hEN.out | with_reducible exact row3Ad HE2.out HE.out hEN.out | with_reducible exact row3B HE2.out HE.out hEN.out | with_reducible exact row3Bd HE2.out HE.out hEN.out | with_reducible exact row3C HE2.out HE.out hEN.out | with_reducible exact row3Cd HE2.out HE.out hEN.out)).mono ?_; rintro e w7 ⟨⟨x1, x2, x3, x4, c, rfl, hx⟩, hb7⟩; have HX := Lib.hid hx; have T7 := Lib.hid (show Below W.heap.size W w7 by first | with_reducible exact wayB T6.out (Nat.le_refl _) hb7 | with_reducible exact wayBd T6.out (Nat.le_refl _) hb7 | with_reducible exact wayC T6.out (Nat.le_refl _) hb7 | with_reducible exact wayCd T6.out (Nat.le_refl _) hb7); have N3 := Lib.hid (M3.out.below T7.out); have N4 := Lib.hid (M4.out.below T7.out); have k7 := Lib.hid (C8.of N3.out N4.out); (first | ((with_reducible have z7 := Lib.hid (zD z6.out hb7)); have y7 := Blk4.open_ z7.out; obtain ⟨⟨c70, c71, c72, c73⟩, ⟨f70, f71, f72, f73⟩, hl7⟩ := y7) | ((with_reducible have z7 := Lib.hid (zDd z6.out hb7)); have y7 := Blk4.open_ z7.out; obtain ⟨⟨c70, c71, c72, c73⟩, ⟨f70, f71, f72, f73⟩, hl7⟩ := y7) | ((with_reducible have z7 := Lib.hid (zB hb7)); have y7 := Blk4.open_ z7.out; obtain ⟨⟨c70, c71, c72, c73⟩, ⟨f70, f71, f72, f73⟩, hl7⟩ := y7) | ((with_reducible have z7 := Lib.hid (zBd hb7)); have y7 := Blk4.open_ z7.out; obtain ⟨⟨c70, c71, c72, c73⟩, ⟨f70, f71, f72, f73⟩, hl7⟩ := y7) | ((with_reducible have z7 := Lib.hid (zC hb7)); have y7 := Blk4.open_ z7.out; obtain ⟨⟨c70, c71, c72, c73⟩, ⟨f70, f71, f72, f73⟩, hl7⟩ := y7) | ((with_reducible have z7 := Lib.hid (zCd hb7)); have y7 := Blk4.open_ z7.out; obtain ⟨⟨c70, c71, c72, c73⟩, ⟨f70, f71, f72, f73⟩, hl7⟩ := y7) | skip); clear hb7 hx))
         all_goals
          have B7 := Lib.hid (B5.out.below T7.out)
          have I7 := Lib.hid (I5.out.below T7.out)
          have hs7 : W.heap.size ≤ w7.heap.size := T7.out.size
          have hq1 : w.heap.size ≠ W.heap.size := by omega
          have hq2 : w.heap.size ≠ w6.heap.size := by omega
          have hq3 : w.heap.size ≠ w6.heap.size + 1 := by omega
          have hr1 : w.heap.size ≤ W.heap.size := by omega
          have hr2 : w.heap.size ≤ w6.heap.size := by omega
          have hr3 : w.heap.size ≤ w6.heap.size + 1 := by omega
          have hp1 : g ≠ W.heap.size := by omega
          have hp2 : g ≠ w6.heap.size := by omega
          have hp3 : g ≠ w6.heap.size + 1 := by omega
          go_wp2_with fail
          go_meet
          first
            | with_reducible exact ⟨w7.heap.size, x1, x2, x3, x4, c, rfl, rfl, HX, Lib.hid Bm.new, Lib.hid (B7.out.alloc _), Lib.hid (N3.out.alloc _), Lib.hid (I7.out.alloc _)⟩
            | with_reducible exact ⟨W.heap.size, x1, x2, x3, x4, c, rfl, rfl, HX, Lib.hid (z7.out.set x1 x2 x3 x4), Lib.hid (B7.out.far _ _ _ _ hq1), Lib.hid (N3.out.far _ _ _ _ hp1), Lib.hid (I7.out.set4 _ _ _ _ hr1)⟩
            | with_reducible exact ⟨w6.heap.size, x1, x2, x3, x4, c, rfl, rfl, HX, Lib.hid (z7.out.set x1 x2 x3 x4), Lib.hid (B7.out.far _ _ _ _ hq2), Lib.hid (N3.out.far _ _ _ _ hp2), Lib.hid (I7.out.set4 _ _ _ _ hr2)⟩
            | with_reducible exact ⟨w6.heap.size + 1, x1, x2, x3, x4, c, rfl, rfl, HX, Lib.hid (z7.out.set x1 x2 x3 x4), Lib.hid (B7.out.far _ _ _ _ hq3), Lib.hid (N3.out.far _ _ _ _ hp3), Lib.hid (I7.out.set4 _ _ _ _ hr3)⟩
        case rest =>
          obtain ⟨g5, x1, x2, x3, x4, c, rfl, rfl, HX, N5, B7, N3, I7⟩ := hcut
          clear kW hEN hgW B5 M3 M4 I5
          obtain ⟨⟨z0, z1, z2, z3⟩, ⟨i0, i1, i2, i3⟩, hlz⟩ := B7.out.open_
          obtain ⟨⟨n0, n1, n2, n3⟩, -, hln⟩ := N3.out.open_
          obtain ⟨⟨m0, m1, m2, m3⟩, -, hlm⟩ := N5.out.open_
          by_cases hc : c = 0
          · have hc' : (c == 0) = true := by simpa using hc
            go_wp2_with fail
            refine bodyPost_ret (v := (.agg #[.int .i64 x1, .int .i64 x2, .int .i64 x3, .int .i64 x4])) (by simp [results, Tryz.results81, go_sem, set4_0 B7.out, set4_1 B7.out, set4_2 B7.out, set4_3 B7.out] <;> rfl) rfl ?_
            have IF := I7.out.set4 (.int .i64 x1) (.int .i64 x2) (.int .i64 x3) (.int .i64 x4) (Nat.le_refl w.heap.size)
            exact ⟨⟨_, _, _, _, rfl, HX.out⟩, IF.src, IF.grown⟩
          · have hc' : (c == 0) = false := by simpa using hc
            go_wp2_with fail
            refine bodyPost_ret (v := (.agg #[.int .i64 p, .int .i64 q, .int .i64 r, .int .i64 s])) (by simp [results, Tryz.results81, go_sem, set4_0 B7.out, set4_1 B7.out, set4_2 B7.out, set4_3 B7.out] <;> rfl) rfl ?_
            have IF := I7.out.set4 (.int .i64 p) (.int .i64 q) (.int .i64 r) (.int .i64 s) (Nat.le_refl w.heap.size)
            exact ⟨⟨_, _, _, _, rfl, HE.out⟩, IF.src, IF.grown⟩
      · have hz2' : (z == 2) = false := by simpa using hz2
        by_cases hz3 : z = 3
        · subst hz3
          go_wp2_with fail
          refine (l01DrawWord_any n b 2 _ (by omega) I1.out.src).mono ?_; rintro e w2 ⟨⟨p, q, r, s, rfl, hem⟩, hs2, hg2⟩
          have I2 := Lib.hid (I1.out.turn hs2 hg2)
          have B2 := Lib.hid (B1.out.turn I1.out (Nat.le_refl _) hg2)
          have HE := Lib.hid hem
          clear hs2 hg2 I1 B1 hem
          go_wp2_with fail
          refine (l01Next_any n b 8 _ (by omega) I2.out.src).mono ?_; rintro e w3 ⟨x, rfl, hx, hs3, hg3⟩
          have I3 := Lib.hid (I2.out.turn hs3 hg3)
          have B3 := Lib.hid (B2.out.turn I2.out (Nat.le_refl _) hg3)
          clear hs3 hg3 I2 B2
          go_wp2_with fail
          refine (l01Power_any p q r s x _ HE.out (by omega)).mono ?_; rintro e w4 ⟨⟨p', q', r', s', k, rfl, hem⟩, hb4⟩
          have I4 := Lib.hid ((I3.out.below hb4).alloc (.cells #[(.int .i64 p'), (.int .i64 q'), (.int .i64 r'), (.int .i64 s')] 94))
          have B4 := Lib.hid ((B3.out.below hb4).alloc (.cells #[(.int .i64 p'), (.int .i64 q'), (.int .i64 r'), (.int .i64 s')] 94))
          have M4 := Lib.hid (Bm.new (w := w4) (p := p') (q := q') (s := r') (u := s'))
          have HE2 := Lib.hid hem
          have hz4 : w.heap.size < w4.heap.size := (B3.out.below hb4).lt
          clear hb4 I3 B3 hem HE hx
          go_wp2_with fail
          refine (l01Is_any p' q' r' s' _).mono ?_; rintro e w5 ⟨rfl, hb5⟩
          have I5 := Lib.hid (I4.out.below hb5)
          have B5 := Lib.hid (B4.out.below hb5)
          have M5 := Lib.hid (M4.out.below hb5)
          clear hb5 I4 B4 M4
          generalize w4.heap.size = g at *
          cases isMat p' q' r' s'
          · go_wp2_with fail
            refine (l01Neg_em 1 0 0 1 _ EM.one).mono ?_; rintro e w6 ⟨rfl, hb6⟩
            have I6 := Lib.hid (I5.out.below hb6)
            have B6 := Lib.hid (B5.out.below hb6)
            clear hb6 I5 B5 M5
            obtain ⟨⟨c0, c1, c2, c3⟩, ⟨f0, f1, f2, f3⟩, hl3⟩ := B6.out.open_
            go_wp2_with fail
            refine bodyPost_ret (v := (.agg #[.int .i64 (-1), .int .i64 0, .int .i64 0, .int .i64 (-1)])) (by simp [results, Tryz.results81, go_sem, set4_0 B6.out, set4_1 B6.out, set4_2 B6.out, set4_3 B6.out] <;> rfl) rfl ?_
            have IF := I6.out.set4 (.int .i64 (-1)) (.int .i64 0) (.int .i64 0) (.int .i64 (-1)) (Nat.le_refl w.heap.size)
            exact ⟨⟨_, _, _, _, rfl, ⟨by omega, by omega, by omega, by omega⟩⟩, IF.src, IF.grown⟩
          · obtain ⟨⟨c0, c1, c2, c3⟩, ⟨f0, f1, f2, f3⟩, hl3⟩ := B5.out.open_
            obtain ⟨⟨d0, d1, d2, d3⟩, ⟨g0, g1, g2, g3⟩, hl4⟩ := M5.out.open_
            go_wp2_with fail
            refine bodyPost_ret (v := (.agg #[.int .i64 p', .int .i64 q', .int .i64 r', .int .i64 s'])) (by simp [results, Tryz.results81, go_sem, set4_0 B5.out, set4_1 B5.out, set4_2 B5.out, set4_3 B5.out] <;> rfl) rfl ?_
            have IF := I5.out.set4 (.int .i64 p') (.int .i64 q') (.int .i64 r') (.int .i64 s') (Nat.le_refl w.heap.size)
            exact ⟨⟨_, _, _, _, rfl, HE2.out⟩, IF.src, IF.grown⟩
        · have hz3' : (z == 3) = false := by simpa using hz3
          go_wp2_with fail
          refine (l01Small_any n b _ I1.out.src).mono ?_; rintro e w2 ⟨⟨p, q, r, s, rfl, hem⟩, hs2, hg2⟩
          have I2 := Lib.hid (I1.out.turn hs2 hg2)
          have B2 := Lib.hid (B1.out.turn I1.out (Nat.le_refl _) hg2)
          have HE := Lib.hid hem
          clear hs2 hg2 I1 B1 hem
          obtain ⟨⟨c0, c1, c2, c3⟩, ⟨f0, f1, f2, f3⟩, hl3⟩ := B2.out.open_
          go_wp2_with fail
          refine bodyPost_ret (v := (.agg #[.int .i64 p, .int .i64 q, .int .i64 r, .int .i64 s])) (by simp [results, Tryz.results81, go_sem, set4_0 B2.out, set4_1 B2.out, set4_2 B2.out, set4_3 B2.out] <;> rfl) rfl ?_
          have IF := I2.out.set4 (.int .i64 p) (.int .i64 q) (.int .i64 r) (.int .i64 s) (Nat.le_refl w.heap.size)
          exact ⟨⟨_, _, _, _, rfl, HE.out⟩, IF.src, IF.grown⟩
end Go.Proofs.YtjnkogkpdbgohaaGreatDoor
