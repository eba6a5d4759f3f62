/- The walk of the great law of definite forms. -/
import Derived.Test.YtcaiofhdcffogaaGreatGa
import Derived.Test.YtcaiofhdcffogaaGreatGb
import Derived.Test.YtcaiofhdcffogaaGreatD4A
import Derived.Deep.DeepCutAuto
namespace Go.Proofs.YtcaiofhdcffogaaGreat
open Go.RowKit
attribute [local go_sem] eqForm3 eqMat
set_option maxRecDepth 1000000 in
set_option maxHeartbeats 16000000 in
theorem lawFnDefiniteForms (a : Option Addr) (len cap : Nat) (w : World) (hl : len ≤ maxLen) (hb : Bytes w w.heap.size a len) :
    Calls Tryz.prog 3 #[.slice a len cap] w fun e w' => e = .returned (.bool true) ∧ Below w.heap.size w w' := by
  have HB := Lib.hid hb
  have HG := Lib.hid (big_any a len cap w hl)
  unfold maxLen at hl
  clear hb
  by_cases hbig : 4096 < len
  · rw [show decide (4096 < len) = true by simpa using hbig] at HG
    go_enter Tryz.func3, Tryz.ntmps3
    go_wp2_with fail
    refine HG.out.mono ?_; rintro e w' ⟨rfl, rfl⟩
    go_wp2_with fail
    go_ret
    exact ⟨rfl, Below.refl _ _⟩
  rw [show decide (4096 < len) = false by simpa using hbig] at HG
  have hl2 : len ≤ 1152921504606846976 := by omega
  have T := Lib.hid (Below.refl w.heap.size w)
  go_enter Tryz.func3, Tryz.ntmps3
  go_wp2_with fail
  refine HG.out.mono ?_; rintro e w' ⟨rfl, rfl⟩
  clear HG
  go_wp2_with fail
  refine (DrawReduceForm_any a len cap w hl2 HB.out).mono ?_; rintro e w1 ⟨⟨fa, fb, fc, rfl⟩, hb⟩
  replace T := Lib.hid (bfin T.out hb)
  clear hb
  have fN := Lib.hid (Bg.new (w := w1) (p := (fa)) (q := (fb)) (s := (fc)))
  replace T := Lib.hid (T.out.alloc T.out.size (.cells #[(.int .i64 fa), (.int .i64 fb), (.int .i64 fc)] 25))
  have f := fN
  clear fN
  obtain ⟨x, y, z, p, q, r, s, k, HR⟩ := red_ok fa fb fc
  have HI := Lib.hid HR.impl
  have HS := Lib.hid HR.spec
  have HR := Lib.hid HR
  go_wp2_with fail
  refine (HI.out _).mono ?_; rintro e w2 ⟨rfl, hb⟩
  replace T := Lib.hid (bfin T.out hb)
  replace f := Lib.hid (f.out.below hb)
  clear hb
  have gN := Lib.hid (Bg.new (w := w2) (p := (x)) (q := (y)) (s := (z)))
  replace T := Lib.hid (T.out.alloc T.out.size (.cells #[(.int .i64 x), (.int .i64 y), (.int .i64 z)] 25))
  replace f := Lib.hid (f.out.alloc (.cells #[(.int .i64 x), (.int .i64 y), (.int .i64 z)] 25))
  have g := gN
  clear gN
  have mN := Lib.hid (Bm.newE (g := w2.heap.size + 1) (w := (w2.alloc (.cells #[(.int .i64 x), (.int .i64 y), (.int .i64 z)] 25))) (p := (p)) (q := (q)) (s := (r)) (u := (s)) (by simp))
  replace T := Lib.hid (T.out.alloc T.out.size (.cells #[(.int .i64 p), (.int .i64 q), (.int .i64 r), (.int .i64 s)] 28))
  replace f := Lib.hid (f.out.alloc (.cells #[(.int .i64 p), (.int .i64 q), (.int .i64 r), (.int .i64 s)] 28))
  replace g := Lib.hid (g.out.alloc (.cells #[(.int .i64 p), (.int .i64 q), (.int .i64 r), (.int .i64 s)] 28))
  have m := mN
  clear mN
  generalize w1.heap.size = b1 at *
  obtain ⟨⟨of0, of1, of2⟩, -, lf⟩ := f.out.open_
  go_wp2_with fail
  refine (HS.out _).mono ?_; rintro e w3 ⟨rfl, hb⟩
  replace T := Lib.hid (bfin T.out hb)
  replace f := Lib.hid (f.out.below hb)
  replace g := Lib.hid (g.out.below hb)
  replace m := Lib.hid (m.out.below hb)
  clear hb of0 of1 of2 lf
  generalize w2.heap.size = b2 at *
  have g'N := Lib.hid (Bg.new (w := w3) (p := (x)) (q := (y)) (s := (z)))
  replace T := Lib.hid (T.out.alloc T.out.size (.cells #[(.int .i64 x), (.int .i64 y), (.int .i64 z)] 25))
  replace f := Lib.hid (f.out.alloc (.cells #[(.int .i64 x), (.int .i64 y), (.int .i64 z)] 25))
  replace g := Lib.hid (g.out.alloc (.cells #[(.int .i64 x), (.int .i64 y), (.int .i64 z)] 25))
  replace m := Lib.hid (m.out.alloc (.cells #[(.int .i64 x), (.int .i64 y), (.int .i64 z)] 25))
  have g' := g'N
  clear g'N
  have m'N := Lib.hid (Bm.newE (g := w3.heap.size + 1) (w := (w3.alloc (.cells #[(.int .i64 x), (.int .i64 y), (.int .i64 z)] 25))) (p := (p)) (q := (q)) (s := (r)) (u := (s)) (by simp))
  replace T := Lib.hid (T.out.alloc T.out.size (.cells #[(.int .i64 p), (.int .i64 q), (.int .i64 r), (.int .i64 s)] 28))
  replace f := Lib.hid (f.out.alloc (.cells #[(.int .i64 p), (.int .i64 q), (.int .i64 r), (.int .i64 s)] 28))
  replace g := Lib.hid (g.out.alloc (.cells #[(.int .i64 p), (.int .i64 q), (.int .i64 r), (.int .i64 s)] 28))
  replace m := Lib.hid (m.out.alloc (.cells #[(.int .i64 p), (.int .i64 q), (.int .i64 r), (.int .i64 s)] 28))
  replace g' := Lib.hid (g'.out.alloc (.cells #[(.int .i64 p), (.int .i64 q), (.int .i64 r), (.int .i64 s)] 28))
  have m' := m'N
  clear m'N
  clear HI HS
  have hx1 : (k != k) = false := by simp
  have hx2 : (x == x && (y == y && z == z)) = true := by simp
  have hx3 : (p == p && (q == q && (r == r && s == s))) = true := by simp
  have hx4 : (isForm fa fb fc != isForm fa fb fc) = false := by simp
  generalize hif : isForm fa fb fc = kf at *
  have HF1 := Lib.hid (fun W => IsForm_any fa fb fc W)
  have HF2 := Lib.hid (fun W => sIsForm_any fa fb fc W)
  rw [hif] at HF1 HF2
  clear hif
  obtain ⟨⟨of0, of1, of2⟩, -, lf⟩ := f.out.open_
  obtain ⟨⟨og0, og1, og2⟩, -, lg⟩ := g.out.open_
  obtain ⟨⟨om0, om1, om2, om3⟩, -, lm⟩ := m.out.open_
  obtain ⟨⟨og'0, og'1, og'2⟩, -, lg'⟩ := g'.out.open_
  obtain ⟨⟨om'0, om'1, om'2, om'3⟩, -, lm'⟩ := m'.out.open_
  go_wp2_with fail
  generalize ((w3.alloc (.cells #[(.int .i64 x), (.int .i64 y), (.int .i64 z)] 25)).alloc (.cells #[(.int .i64 p), (.int .i64 q), (.int .i64 r), (.int .i64 s)] 28)) = W4 at *
  refine wp_region_ext (by kernel_rfl) (by kernel_rfl) ?_
  repeat (go_big_quiet_step ((first | (go_at_call 8; refine Calls.ext_of (Nat.le_refl _) (HF1.out _)) | (go_at_call 9; refine Calls.ext_of (Nat.le_refl _) (HF2.out _)))))
  refine wpQuiet_nil ?_
  intro w4 hb
  replace T := Lib.hid (bfin T.out hb)
  replace f := Lib.hid (f.out.below hb)
  replace g := Lib.hid (g.out.below hb)
  replace m := Lib.hid (m.out.below hb)
  replace g' := Lib.hid (g'.out.below hb)
  replace m' := Lib.hid (m'.out.below hb)
  clear hb of0 of1 of2 lf og0 og1 og2 lg om0 om1 om2 om3 lm og'0 og'1 og'2 lg' om'0 om'1 om'2 om'3 lm'
  generalize w3.heap.size = b3 at *
  clear HF1 HF2 hx1 hx2 hx3 hx4
  clear g' m'
  go_upto_if 93 with (fail)
  go_cut [10, 11, 12, 13, 14, 15, 16, 17, 18, 19, 93] from 94 to 154 (fun _ _ _ _ _ _ _ _ _ _ _ wx => Hid (Below w.heap.size w wx))
  case first =>
    by_cases h0 : k = 0
    · subst h0
      have H1 := Lib.hid (HR.out.red rfl)
      obtain ⟨D, hD1, hD2⟩ := HR.out.disc rfl
      have H2 := Lib.hid hD1
      have H3 := Lib.hid hD2
      obtain ⟨u, v, t, c6, h4, h5⟩ := HR.out.made rfl
      have H4 := Lib.hid h4
      have H5 := Lib.hid h5
      have H6 := Lib.hid (HR.out.equ rfl)
      clear HR hD1 hD2 h4 h5
      have hy1 : (D != D) = false := by simp
      obtain ⟨⟨og0, og1, og2⟩, -, lg⟩ := g.out.open_
      go_wp2_with fail
      refine (H1.out _).mono ?_; rintro e w5 ⟨rfl, hb⟩
      replace T := Lib.hid (bfin T.out hb)
      replace f := Lib.hid (f.out.below hb)
      replace g := Lib.hid (g.out.below hb)
      replace m := Lib.hid (m.out.below hb)
      clear hb og0 og1 og2 lg
      obtain ⟨⟨of0, of1, of2⟩, -, lf⟩ := f.out.open_
      go_wp2_with fail
      refine (H2.out _).mono ?_; rintro e w6 ⟨rfl, hb⟩
      replace T := Lib.hid (bfin T.out hb)
      replace f := Lib.hid (f.out.below hb)
      replace g := Lib.hid (g.out.below hb)
      replace m := Lib.hid (m.out.below hb)
      clear hb of0 of1 of2 lf
      obtain ⟨⟨og0, og1, og2⟩, -, lg⟩ := g.out.open_
      go_wp2_with fail
      refine (H3.out _).mono ?_; rintro e w7 ⟨rfl, hb⟩
      replace T := Lib.hid (bfin T.out hb)
      replace f := Lib.hid (f.out.below hb)
      replace g := Lib.hid (g.out.below hb)
      replace m := Lib.hid (m.out.below hb)
      clear hb og0 og1 og2 lg
      obtain ⟨⟨of0, of1, of2⟩, -, lf⟩ := f.out.open_
      obtain ⟨⟨om0, om1, om2, om3⟩, -, lm⟩ := m.out.open_
      go_wp2_with fail
      refine (H4.out _).mono ?_; rintro e w8 ⟨rfl, hb⟩
      replace T := Lib.hid (bfin T.out hb)
      replace f := Lib.hid (f.out.below hb)
      replace g := Lib.hid (g.out.below hb)
      replace m := Lib.hid (m.out.below hb)
      clear hb of0 of1 of2 lf om0 om1 om2 om3 lm
      have hN := Lib.hid (Bg.new (w := w8) (p := (u)) (q := (v)) (s := (t)))
      replace T := Lib.hid (T.out.alloc T.out.size (.cells #[(.int .i64 u), (.int .i64 v), (.int .i64 t)] 25))
      replace f := Lib.hid (f.out.alloc (.cells #[(.int .i64 u), (.int .i64 v), (.int .i64 t)] 25))
      replace g := Lib.hid (g.out.alloc (.cells #[(.int .i64 u), (.int .i64 v), (.int .i64 t)] 25))
      replace m := Lib.hid (m.out.alloc (.cells #[(.int .i64 u), (.int .i64 v), (.int .i64 t)] 25))
      have h := hN
      clear hN
      by_cases h6 : c6 = 0
      · obtain ⟨rfl, rfl, rfl⟩ := H5.out h6
        have h6' : (c6 == 0) = true := by simpa using h6
        have hy2 : (u == u && (v == v && t == t)) = true := by simp
        clear h6 H5
        obtain ⟨⟨of0, of1, of2⟩, -, lf⟩ := f.out.open_
        obtain ⟨⟨og0, og1, og2⟩, -, lg⟩ := g.out.open_
        obtain ⟨⟨oh0, oh1, oh2⟩, -, lh⟩ := h.out.open_
        go_wp2_with fail
        refine (H6.out _).mono ?_; rintro e w9 ⟨rfl, hb⟩
        replace T := Lib.hid (bfin T.out hb)
        replace f := Lib.hid (f.out.below hb)
        replace g := Lib.hid (g.out.below hb)
        replace m := Lib.hid (m.out.below hb)
        replace h := Lib.hid (h.out.below hb)
        clear hb of0 of1 of2 lf og0 og1 og2 lg oh0 oh1 oh2 lh
        go_wp2_with fail
        go_meet
        exact T
      · have h6' : (c6 == 0) = false := by simpa using h6
        clear h6 H5
        obtain ⟨⟨of0, of1, of2⟩, -, lf⟩ := f.out.open_
        obtain ⟨⟨og0, og1, og2⟩, -, lg⟩ := g.out.open_
        go_wp2_with fail
        refine (H6.out _).mono ?_; rintro e w10 ⟨rfl, hb⟩
        replace T := Lib.hid (bfin T.out hb)
        replace f := Lib.hid (f.out.below hb)
        replace g := Lib.hid (g.out.below hb)
        replace m := Lib.hid (m.out.below hb)
        replace h := Lib.hid (h.out.below hb)
        clear hb of0 of1 of2 lf og0 og1 og2 lg
        go_wp2_with fail
        go_meet
        exact T
    · have h0' : (k == 0) = false := by simpa using h0
      clear h0 HR
      go_wp2_with fail
      go_meet
      exact T
  case rest =>
    clear HR T f g m
    have T := hcut
    clear hcut
    have HD := Lib.hid (fun W (h : Bytes W W.heap.size a len) => DrawApplyMatrix_any a len cap W hl2 h)
    go_wp2_with fail
    refine (HD.out _ (HB.out.after T.out)).mono ?_; rintro e w11 ⟨⟨fa, fb, fc, p, q, r, s, rfl⟩, hb⟩
    replace T := Lib.hid (bfin T.out hb)
    clear hb
    have fN := Lib.hid (Bg.new (w := w11) (p := (fa)) (q := (fb)) (s := (fc)))
    replace T := Lib.hid (T.out.alloc T.out.size (.cells #[(.int .i64 fa), (.int .i64 fb), (.int .i64 fc)] 25))
    have f := fN
    clear fN
    have mN := Lib.hid (Bm.newE (g := w11.heap.size + 1) (w := (w11.alloc (.cells #[(.int .i64 fa), (.int .i64 fb), (.int .i64 fc)] 25))) (p := (p)) (q := (q)) (s := (r)) (u := (s)) (by simp))
    replace T := Lib.hid (T.out.alloc T.out.size (.cells #[(.int .i64 p), (.int .i64 q), (.int .i64 r), (.int .i64 s)] 28))
    replace f := Lib.hid (f.out.alloc (.cells #[(.int .i64 p), (.int .i64 q), (.int .i64 r), (.int .i64 s)] 28))
    have m := mN
    clear mN
    obtain ⟨x, y, z, k, HR⟩ := apply_ok fa fb fc p q r s
    have HI := Lib.hid HR.impl
    have HS := Lib.hid HR.spec
    have HR := Lib.hid HR
    clear HD
    obtain ⟨⟨of0, of1, of2⟩, -, lf⟩ := f.out.open_
    obtain ⟨⟨om0, om1, om2, om3⟩, -, lm⟩ := m.out.open_
    go_wp2_with fail
    refine (HI.out _).mono ?_; rintro e w12 ⟨rfl, hb⟩
    replace T := Lib.hid (bfin T.out hb)
    replace f := Lib.hid (f.out.below hb)
    replace m := Lib.hid (m.out.below hb)
    clear hb of0 of1 of2 lf om0 om1 om2 om3 lm
    generalize w11.heap.size = b11 at *
    have gN := Lib.hid (Bg.new (w := w12) (p := (x)) (q := (y)) (s := (z)))
    replace T := Lib.hid (T.out.alloc T.out.size (.cells #[(.int .i64 x), (.int .i64 y), (.int .i64 z)] 25))
    replace f := Lib.hid (f.out.alloc (.cells #[(.int .i64 x), (.int .i64 y), (.int .i64 z)] 25))
    replace m := Lib.hid (m.out.alloc (.cells #[(.int .i64 x), (.int .i64 y), (.int .i64 z)] 25))
    have g := gN
    clear gN
    obtain ⟨⟨of0, of1, of2⟩, -, lf⟩ := f.out.open_
    obtain ⟨⟨om0, om1, om2, om3⟩, -, lm⟩ := m.out.open_
    go_wp2_with fail
    refine (HS.out _).mono ?_; rintro e w13 ⟨rfl, hb⟩
    replace T := Lib.hid (bfin T.out hb)
    replace f := Lib.hid (f.out.below hb)
    replace m := Lib.hid (m.out.below hb)
    replace g := Lib.hid (g.out.below hb)
    clear hb of0 of1 of2 lf om0 om1 om2 om3 lm
    generalize w12.heap.size = b12 at *
    have g'N := Lib.hid (Bg.new (w := w13) (p := (x)) (q := (y)) (s := (z)))
    replace T := Lib.hid (T.out.alloc T.out.size (.cells #[(.int .i64 x), (.int .i64 y), (.int .i64 z)] 25))
    replace f := Lib.hid (f.out.alloc (.cells #[(.int .i64 x), (.int .i64 y), (.int .i64 z)] 25))
    replace m := Lib.hid (m.out.alloc (.cells #[(.int .i64 x), (.int .i64 y), (.int .i64 z)] 25))
    replace g := Lib.hid (g.out.alloc (.cells #[(.int .i64 x), (.int .i64 y), (.int .i64 z)] 25))
    have g' := g'N
    clear g'N
    have hx1 : (k != k) = false := by simp
    have hx2 : (x == x && (y == y && z == z)) = true := by simp
    clear HI HS
    obtain ⟨⟨og0, og1, og2⟩, -, lg⟩ := g.out.open_
    obtain ⟨⟨og'0, og'1, og'2⟩, -, lg'⟩ := g'.out.open_
    go_upto_if 181 with (fail)
    generalize w13.heap.size = b13 at *
    clear hx1 hx2
    clear og0 og1 og2 lg og'0 og'1 og'2 lg'
    go_cut [26, 27, 28, 29, 30, 31, 32, 33, 181] from 182 to 240 (fun _ _ _ _ _ _ _ _ _ wx => Hid (Below w.heap.size w wx))
    case first =>
      by_cases h0 : k = 0
      · subst h0
        obtain ⟨D, hD1, hD2⟩ := HR.out.disc rfl
        have H2 := Lib.hid hD1
        have H3 := Lib.hid hD2
        have H4 := Lib.hid (HR.out.v1 rfl)
        have H5 := Lib.hid (HR.out.v2 rfl)
        clear HR hD1 hD2
        have hy1 : (D != D) = false := by simp
        have hy2 : (x != x) = false := by simp
        have hy3 : (z != z) = false := by simp
        obtain ⟨⟨of0, of1, of2⟩, -, lf⟩ := f.out.open_
        go_wp2_with fail
        refine (H2.out _).mono ?_; rintro e w14 ⟨rfl, hb⟩
        replace T := Lib.hid (bfin T.out hb)
        replace f := Lib.hid (f.out.below hb)
        replace m := Lib.hid (m.out.below hb)
        replace g := Lib.hid (g.out.below hb)
        replace g' := Lib.hid (g'.out.below hb)
        clear hb of0 of1 of2 lf
        obtain ⟨⟨og0, og1, og2⟩, -, lg⟩ := g.out.open_
        go_wp2_with fail
        refine (H3.out _).mono ?_; rintro e w15 ⟨rfl, hb⟩
        replace T := Lib.hid (bfin T.out hb)
        replace f := Lib.hid (f.out.below hb)
        replace m := Lib.hid (m.out.below hb)
        replace g := Lib.hid (g.out.below hb)
        replace g' := Lib.hid (g'.out.below hb)
        clear hb og0 og1 og2 lg
        obtain ⟨⟨of0, of1, of2⟩, -, lf⟩ := f.out.open_
        obtain ⟨⟨om0, om1, om2, om3⟩, -, lm⟩ := m.out.open_
        go_wp2_with fail
        refine (H4.out _).mono ?_; rintro e w16 ⟨rfl, hb⟩
        replace T := Lib.hid (bfin T.out hb)
        replace f := Lib.hid (f.out.below hb)
        replace m := Lib.hid (m.out.below hb)
        replace g := Lib.hid (g.out.below hb)
        replace g' := Lib.hid (g'.out.below hb)
        clear hb of0 of1 of2 lf om0 om1 om2 om3 lm
        obtain ⟨⟨of0, of1, of2⟩, -, lf⟩ := f.out.open_
        obtain ⟨⟨om0, om1, om2, om3⟩, -, lm⟩ := m.out.open_
        go_wp2_with fail
        refine (H5.out _).mono ?_; rintro e w17 ⟨rfl, hb⟩
        replace T := Lib.hid (bfin T.out hb)
        replace f := Lib.hid (f.out.below hb)
        replace m := Lib.hid (m.out.below hb)
        replace g := Lib.hid (g.out.below hb)
        replace g' := Lib.hid (g'.out.below hb)
        clear hb of0 of1 of2 lf om0 om1 om2 om3 lm
        obtain ⟨⟨og0, og1, og2⟩, -, lg⟩ := g.out.open_
        go_wp2_with fail
        go_meet
        exact T
      · have h0' : (k == 0) = false := by simpa using h0
        clear h0 HR
        go_wp2_with fail
        go_meet
        exact T
    case rest =>
      clear HR T f m g g'
      have T := hcut
      clear hcut
      have HD := Lib.hid (fun W (h : Bytes W W.heap.size a len) => DrawValueAt_any a len cap W hl2 h)
      have HD2 := Lib.hid (fun W (h : Bytes W W.heap.size a len) => DrawValuesOf_any a len cap W hl2 h)
      have HD3 := Lib.hid (fun W (h : Bytes W W.heap.size a len) => DrawIsReducedForm_any a len cap W hl2 h)
      go_wp2_with fail
      refine (HD.out _ (HB.out.after T.out)).mono ?_; rintro e w21 ⟨⟨fa, fb, fc, u, v, rfl⟩, hb⟩
      replace T := Lib.hid (bfin T.out hb)
      clear hb
      have fN := Lib.hid (Bg.new (w := w21) (p := (fa)) (q := (fb)) (s := (fc)))
      replace T := Lib.hid (T.out.alloc T.out.size (.cells #[(.int .i64 fa), (.int .i64 fb), (.int .i64 fc)] 25))
      have f := fN
      clear fN
      have HI := Lib.hid (fun W => ValueAt_any fa fb fc u v W)
      have HS := Lib.hid (fun W => sValueAt_any fa fb fc u v W)
      generalize valAt fa fb fc u v = R1 at *
      obtain ⟨val, vk⟩ := R1
      simp only at HI HS
      clear HD
      obtain ⟨⟨of0, of1, of2⟩, -, lf⟩ := f.out.open_
      go_wp2_with fail
      refine (HI.out _).mono ?_; rintro e w22 ⟨rfl, hb⟩
      replace T := Lib.hid (bfin T.out hb)
      replace f := Lib.hid (f.out.below hb)
      clear hb of0 of1 of2 lf
      generalize w21.heap.size = b21 at *
      obtain ⟨⟨of0, of1, of2⟩, -, lf⟩ := f.out.open_
      go_wp2_with fail
      refine (HS.out _).mono ?_; rintro e w23 ⟨rfl, hb⟩
      replace T := Lib.hid (bfin T.out hb)
      replace f := Lib.hid (f.out.below hb)
      clear hb of0 of1 of2 lf
      clear HI HS
      clear f
      go_wp2_with fail
      refine (HD2.out _ (HB.out.after T.out)).mono ?_; rintro e w24 ⟨⟨pa, pb, pc, r, rfl⟩, hb⟩
      replace T := Lib.hid (bfin T.out hb)
      clear hb
      have fN := Lib.hid (Bg.new (w := w24) (p := (pa)) (q := (pb)) (s := (pc)))
      replace T := Lib.hid (T.out.alloc T.out.size (.cells #[(.int .i64 pa), (.int .i64 pb), (.int .i64 pc)] 25))
      have f := fN
      clear fN
      clear HD2
      have HI := Lib.hid (fun W => ValuesOf_any pa pb pc r W)
      have HS := Lib.hid (fun W => sValuesOf_any pa pb pc r W)
      have HU := Lib.hid (fun h => vals_use (a := pa) (b := pb) (c := pc) (n := r) h)
      have hlen := valsRes_lenG pa pb pc r
      generalize (valsRes pa pb pc r).xs = xs at *
      generalize (valsRes pa pb pc r).c = ck at *
      generalize hL : xs.length = L at *
      have HL := Lib.hid hL
      clear hL
      obtain ⟨⟨of0, of1, of2⟩, -, lf⟩ := f.out.open_
      go_wp2_with fail
      refine (HI.out _).mono ?_; rintro e w25 ⟨v1, rfl, ho1, hb⟩
      replace T := Lib.hid (bfin T.out hb)
      replace f := Lib.hid (f.out.below hb)
      clear hb of0 of1 of2 lf
      generalize w24.heap.size = b24 at *
      obtain ⟨A1, cap1, rfl, -, -, hat1⟩ := own_view ho1
      have R1 := Lib.hid hat1
      clear ho1 hat1
      obtain ⟨⟨of0, of1, of2⟩, -, lf⟩ := f.out.open_
      go_wp2_with fail
      refine (HS.out _).mono ?_; rintro e w26 ⟨v2, rfl, ho2, hb⟩
      replace T := Lib.hid (bfin T.out hb)
      replace f := Lib.hid (f.out.below hb)
      replace R1 := Lib.hid (R1.out.below hb)
      clear hb of0 of1 of2 lf
      obtain ⟨A2, cap2, rfl, -, -, hat2⟩ := own_view ho2
      have R2 := Lib.hid hat2
      clear ho2 hat2 HI HS
      have hx1 : (val != val) = false := by simp
      have hx2 : (vk != vk) = false := by simp
      have hx3 : (ck != ck) = false := by simp
      have hx4 : L ≤ maxLen := by unfold maxLen; omega
      go_wp2_with fail
      refine (likeInts_same A1 A2 L cap1 cap2 _ _ xs _ HL.out hx4 R1.out R2.out).mono ?_; rintro e w27 ⟨rfl, hb⟩
      replace T := Lib.hid (bfin T.out hb)
      replace f := Lib.hid (f.out.below hb)
      replace R1 := Lib.hid (R1.out.below hb)
      clear hb
      clear R2 hx1 hx2 hx3
      go_upto_region 38 with (fail)
      go_cut [321] from 297 to 320 (fun s wx => s = .bool false ∧ Hid (Below w.heap.size w wx))
      case first =>
        by_cases hc : ck = 0
        · subst hc
          by_cases hr : 0 < r
          · have U := HU.out rfl hr
            have ha := Lib.hid U.a
            have hcc := Lib.hid U.c
            have hz := Lib.hid U.z
            clear U HU
            obtain ⟨⟨of0, of1, of2⟩, -, lf⟩ := f.out.open_
            go_wp2_with fail
            refine (hasInt_yes A1 L cap1 _ xs pa _ HL.out hx4 ha.out R1.out).mono ?_; rintro e w' ⟨rfl, rfl⟩
            go_wp2_with fail
            refine (hasInt_yes A1 L cap1 _ xs pc _ HL.out hx4 hcc.out R1.out).mono ?_; rintro e w' ⟨rfl, rfl⟩
            go_wp2_with fail
            refine (hasInt_yes A1 L cap1 _ xs 0 _ HL.out hx4 hz.out R1.out).mono ?_; rintro e w' ⟨rfl, rfl⟩
            go_wp2_with fail
            go_meet
            exact ⟨rfl, T⟩
          · clear HU
            go_wp2_with fail
            go_meet
            exact ⟨rfl, T⟩
        · have hc' : (ck == 0) = false := by simpa using hc
          clear HU hc
          go_wp2_with fail
          go_meet
          exact ⟨rfl, T⟩
      case rest =>
        clear T f R1 HU
        obtain ⟨rfl, T⟩ := hcut
        go_wp2_with fail
        refine (HD3.out _ (HB.out.after T.out)).mono ?_; rintro e w31 ⟨⟨fa, fb, fc, rfl⟩, hb⟩
        replace T := Lib.hid (bfin T.out hb)
        clear hb
        have fN := Lib.hid (Bg.new (w := w31) (p := (fa)) (q := (fb)) (s := (fc)))
        replace T := Lib.hid (T.out.alloc T.out.size (.cells #[(.int .i64 fa), (.int .i64 fb), (.int .i64 fc)] 25))
        have f := fN
        clear fN
        clear HD3
        have H1 := Lib.hid (fun W => IsReducedForm_any fa fb fc W)
        have H2 := Lib.hid (fun W => sIsReducedForm_any fa fb fc W)
        have H3 := Lib.hid (fun W => DiscriminantOf_any fa fb fc W)
        have H4 := Lib.hid (fun W => sDiscriminantOf_any fa fb fc W)
        generalize isRed fa fb fc = R1 at *
        obtain ⟨rb, rk⟩ := R1
        generalize discOf fa fb fc = R2 at *
        obtain ⟨dv, dk⟩ := R2
        simp only at H1 H2 H3 H4
        obtain ⟨⟨of0, of1, of2⟩, -, lf⟩ := f.out.open_
        go_wp2_with fail
        refine (H1.out _).mono ?_; rintro e w32 ⟨rfl, hb⟩
        replace T := Lib.hid (bfin T.out hb)
        replace f := Lib.hid (f.out.below hb)
        clear hb of0 of1 of2 lf
        generalize w31.heap.size = b31 at *
        obtain ⟨⟨of0, of1, of2⟩, -, lf⟩ := f.out.open_
        go_wp2_with fail
        refine (H2.out _).mono ?_; rintro e w33 ⟨rfl, hb⟩
        replace T := Lib.hid (bfin T.out hb)
        replace f := Lib.hid (f.out.below hb)
        clear hb of0 of1 of2 lf
        obtain ⟨⟨of0, of1, of2⟩, -, lf⟩ := f.out.open_
        go_wp2_with fail
        refine (H3.out _).mono ?_; rintro e w34 ⟨rfl, hb⟩
        replace T := Lib.hid (bfin T.out hb)
        replace f := Lib.hid (f.out.below hb)
        clear hb of0 of1 of2 lf
        obtain ⟨⟨of0, of1, of2⟩, -, lf⟩ := f.out.open_
        go_wp2_with fail
        refine (H4.out _).mono ?_; rintro e w35 ⟨rfl, hb⟩
        replace T := Lib.hid (bfin T.out hb)
        replace f := Lib.hid (f.out.below hb)
        clear hb of0 of1 of2 lf
        have hx1 : (rk == rk) = true := by simp
        have hx2 : (rb == rb) = true := by simp
        have hx3 : (dk == dk) = true := by simp
        have hx5 : (dv == dv) = true := by simp
        go_wp2_with fail
        go_ret
        exact ⟨rfl, T.out⟩
end Go.Proofs.YtcaiofhdcffogaaGreat
