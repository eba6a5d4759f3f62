/- The walk of the great law of cycles of forms. -/
import Derived.Test.YtcaiofhdcffogaaGa
import Derived.Test.YtcaiofhdcffogaaGc
import Derived.Test.YtcaiofhdcffogaaD4A
import Derived.Deep.DeepCutAuto
namespace Go.Proofs.Ytcaiofhdcffogaa
open Go.RowKit
attribute [local go_sem] eqForm3 eqMat
theorem gtF {L : List F3} {k : Nat} {f : F3} (h : L[k]? = some f) : (ints (flatF L))[k * 3]? = some (.int .i64 f.x) ∧ (ints (flatF L))[k * 3 + 1]? = some (.int .i64 f.y) ∧ (ints (flatF L))[k * 3 + 2]? = some (.int .i64 f.z) := by
  obtain ⟨hk, rfl⟩ := List.getElem?_eq_some_iff.1 h
  exact flatF_atG hk
set_option maxRecDepth 1000000 in
set_option maxHeartbeats 16000000 in
theorem lawFnFormCycles (a : Option Addr) (len cap : Nat) (w : World) (hl : len ≤ maxLen) (hb : Bytes w w.heap.size a len) :
    Calls Try.prog 3 #[.slice a len cap] w fun e w' => e = .returned (.bool true) ∧ Below w.heap.size w w' := by
  have HB := Lib.hid hb
  have HG := Lib.hid (big_any a len cap w hl)
  unfold maxLen at hl
  clear hb
  by_cases hbig : 4096 < len
  · rw [show decide (4096 < len) = true by simpa using hbig] at HG
    go_enter Try.func3, Try.ntmps3
    go_wp2_with fail
    refine HG.out.mono ?_; rintro e w' ⟨rfl, rfl⟩
    go_wp2_with fail
    go_ret
    exact ⟨rfl, Below.refl _ _⟩
  rw [show decide (4096 < len) = false by simpa using hbig] at HG
  have hl2 : len ≤ 1152921504606846976 := by omega
  have T := Lib.hid (Below.refl w.heap.size w)
  go_enter Try.func3, Try.ntmps3
  go_wp2_with fail
  refine HG.out.mono ?_; rintro e w' ⟨rfl, rfl⟩
  clear HG
  go_wp2_with fail
  refine (DrawClassNumber_any a len cap w hl2 HB.out).mono ?_; rintro e w1 ⟨⟨d, rfl⟩, hb⟩
  replace T := Lib.hid (bfin T.out hb)
  clear hb
  obtain ⟨n, k, L, HO⟩ := forms_ok d
  have H1 := Lib.hid HO.cimp
  have H2 := Lib.hid HO.cspec
  have H3 := Lib.hid HO.fimp
  have H4 := Lib.hid HO.fspec
  have HO := Lib.hid HO
  go_wp2_with fail
  refine (H1.out _).mono ?_; rintro e w2 ⟨rfl, hb⟩
  replace T := Lib.hid (bfin T.out hb)
  clear hb
  go_wp2_with fail
  refine (H2.out _).mono ?_; rintro e w3 ⟨rfl, hb⟩
  replace T := Lib.hid (bfin T.out hb)
  clear hb
  go_wp2_with fail
  refine (H3.out _).mono ?_; rintro e w4 ⟨v1, rfl, ho1, hb⟩
  replace T := Lib.hid (bfin T.out hb)
  clear hb
  obtain ⟨A1, cap1, rfl, -, -, hat1⟩ := own_view ho1
  have R1 := Lib.hid hat1
  clear ho1 hat1
  go_wp2_with fail
  refine (H4.out _).mono ?_; rintro e w5 ⟨v2, rfl, ho2, hb⟩
  replace T := Lib.hid (bfin T.out hb)
  replace R1 := Lib.hid (R1.out.below hb)
  clear hb
  obtain ⟨A2, cap2, rfl, -, -, hat2⟩ := own_view ho2
  have R2 := Lib.hid hat2
  clear ho2 hat2 H1 H2 H3 H4
  have hlen := HO.out.len
  have hfl : (ints (flatF L)).length = L.length * 3 := by simp [ints, flatF_len]
  have hfl2 := flatF_len L
  have hx1 : (k != k) = false := by simp
  have hx2 : (n != n) = false := by simp
  have hx4 : L.length ≤ maxLen := by unfold maxLen; omega
  go_wp2_with fail
  refine (forms5_same A1 A2 L.length cap1 cap2 _ _ (flatF L) _ hfl2 hx4 R1.out R2.out).mono ?_; rintro e w6 ⟨rfl, hb⟩
  replace T := Lib.hid (bfin T.out hb)
  replace R1 := Lib.hid (R1.out.below hb)
  clear hb
  clear R2 hfl hfl2 hx4
  go_upto_if 102 with (fail)
  clear hx1 hx2
  go_cut [12, 13, 14, 15, 16, 102] from 103 to 155 (fun _ _ _ _ _ _ wx => Hid (Below w.heap.size w wx))
  case first =>
    by_cases h0 : k = 0
    · subst h0
      have HR := Lib.hid (HO.out.red rfl)
      have HD := Lib.hid (HO.out.disc rfl)
      have hn1 := HO.out.one rfl
      have hneg : d < 0 → (n != (L.length : Int)) = false := fun h => by rw [HO.out.neg rfl h]; simp
      have hn1' : ¬ n < 1 := by omega
      have hdd : (d != d) = false := by simp
      clear HO hn1
      go_upto_region 11 with (fail)
      go_cut [114] from 103 to 113 (fun s wx => s = .bool false ∧ Hid (Below w.heap.size w wx) ∧ Hid (RowAt wx w3.heap.size A1 L.length (ints (flatF L))))
      case first =>
        by_cases hd : d < 0
        · have hne := hneg hd
          clear hneg
          go_wp2_with fail
          go_meet
          exact ⟨rfl, T, R1⟩
        · clear hneg
          go_wp2_with fail
          go_meet
          exact ⟨rfl, T, R1⟩
      case rest =>
        clear T R1 hneg
        obtain ⟨rfl, T, R1⟩ := hcut
        go_wp2_with fail
        go_loopw [12, 13, 14, 15, 16] (fun i _ _ _ _ wr => ∃ j : Nat, i = (.int .i64 ((j : Int))) ∧ j ≤ L.length ∧ Hid (Below w.heap.size w wr) ∧ Hid (RowAt wr w3.heap.size A1 L.length (ints (flatF L)))) (fun i _ _ _ _ _ => L.length - (intOf i).toNat)
        case atStart => exact ⟨0, rfl, Nat.zero_le _, T, R1⟩
        case round =>
          clear T R1
          obtain ⟨j, rfl, hj, T, R1⟩ := hrel
          by_cases hlt : j < L.length
          · have hlt2 : (j : Int) < (L.length : Int) := by omega
            by_cases h6 : (j : Int) < 6
            · have hm := List.getElem_mem (l := L) hlt
              have HRj := Lib.hid (HR.out _ hm)
              have HDj := Lib.hid (HD.out _ hm)
              obtain ⟨e0, e1, e2⟩ := gtF (List.getElem?_eq_getElem hlt)
              obtain ⟨b, rfl, -, hbl, hc, -⟩ := R1.out (by omega)
              have c0 := hc _ _ e0
              have c1 := hc _ _ e1
              have c2 := hc _ _ e2
              clear hm hc HR HD hbl
              have E0 := Lib.hid e0
              have E1 := Lib.hid e1
              have E2 := Lib.hid e2
              clear e0 e1 e2
              generalize hx : L[j].x = x at *
              generalize hy : L[j].y = y at *
              generalize hz : L[j].z = z at *
              clear hx hy hz
              go_wp2_with fail
              refine (HRj.out _).mono ?_; rintro e w8 ⟨rfl, hb8⟩
              replace T := Lib.hid (bfin T.out hb8)
              replace R1 := Lib.hid (R1.out.below hb8)
              clear hb8 c0 c1 c2 HRj
              obtain ⟨b', hb', -, hbl, hc, -⟩ := R1.out (by omega)
              injection hb' with hb'
              injection hb' with hb'
              subst hb'
              have c0 := hc _ _ E0.out
              have c1 := hc _ _ E1.out
              have c2 := hc _ _ E2.out
              clear hc hbl
              go_wp2_with fail
              refine (HDj.out _).mono ?_; rintro e w9 ⟨rfl, hb9⟩
              replace T := Lib.hid (bfin T.out hb9)
              replace R1 := Lib.hid (R1.out.below hb9)
              clear hb9 c0 c1 c2 HDj E0 E1 E2
              go_wp2_with fail
              go_roundw
              case rel => exact ⟨j + 1, by go_num, by omega, T, R1⟩
              case measure => simp [intOf]; omega
            · clear HR HD
              go_wp2_with fail
              go_meet
              exact T
          · have hlt2 : ¬ (j : Int) < (L.length : Int) := by omega
            clear HR HD
            go_wp2_with fail
            go_meet
            exact T
    · have h0' : (k == 0) = false := by simpa using h0
      clear h0 HO
      go_wp2_with fail
      go_meet
      exact T
  case rest =>
    clear HO T R1 hlen
    have T := hcut
    clear hcut
    have HD := Lib.hid (fun W (h : Bytes W W.heap.size a len) => DrawCycleOf_any a len cap W hl2 h)
    go_wp2_with fail
    refine (HD.out _ (HB.out.after T.out)).mono ?_; rintro e w11 ⟨⟨fa, fb, fc, rfl⟩, hb⟩
    replace T := Lib.hid (bfin T.out hb)
    clear hb
    have fN := Lib.hid (Bg.new (w := w11) (p := (fa)) (q := (fb)) (s := (fc)))
    replace T := Lib.hid (T.out.alloc T.out.size (.cells #[(.int .i64 fa), (.int .i64 fb), (.int .i64 fc)] 34))
    have f := fN
    clear fN
    obtain ⟨k, x, y, z, m, L, HO⟩ := cycle_ok fa fb fc
    have H1 := Lib.hid HO.cimp
    have H2 := Lib.hid HO.cspec
    have H3 := Lib.hid HO.nimp
    have H4 := Lib.hid HO.nspec
    have HO := Lib.hid HO
    clear HD
    have hlen := HO.out.len
    have hfl2 := flatF_len L
    obtain ⟨⟨of0, of1, of2⟩, -, lf⟩ := f.out.open_
    go_wp2_with fail
    refine (H1.out _).mono ?_; rintro e w12 ⟨v1, rfl, ho1, hb⟩
    replace T := Lib.hid (bfin T.out hb)
    replace f := Lib.hid (f.out.below hb)
    clear hb of0 of1 of2 lf
    generalize w11.heap.size = b11 at *
    obtain ⟨A1, cap1, rfl, -, -, hat1⟩ := own_view ho1
    have R1 := Lib.hid hat1
    clear ho1 hat1
    obtain ⟨⟨of0, of1, of2⟩, -, lf⟩ := f.out.open_
    go_wp2_with fail
    refine (H2.out _).mono ?_; rintro e w13 ⟨v2, rfl, ho2, hb⟩
    replace T := Lib.hid (bfin T.out hb)
    replace f := Lib.hid (f.out.below hb)
    replace R1 := Lib.hid (R1.out.below hb)
    clear hb of0 of1 of2 lf
    obtain ⟨A2, cap2, rfl, -, -, hat2⟩ := own_view ho2
    have R2 := Lib.hid hat2
    clear ho2 hat2
    obtain ⟨⟨of0, of1, of2⟩, -, lf⟩ := f.out.open_
    go_wp2_with fail
    refine (H3.out _).mono ?_; rintro e w14 ⟨rfl, hb⟩
    replace T := Lib.hid (bfin T.out hb)
    replace f := Lib.hid (f.out.below hb)
    replace R1 := Lib.hid (R1.out.below hb)
    replace R2 := Lib.hid (R2.out.below hb)
    clear hb of0 of1 of2 lf
    have gN := Lib.hid (Bg.new (w := w14) (p := (x)) (q := (y)) (s := (z)))
    replace T := Lib.hid (T.out.alloc T.out.size (.cells #[(.int .i64 x), (.int .i64 y), (.int .i64 z)] 34))
    replace f := Lib.hid (f.out.alloc (.cells #[(.int .i64 x), (.int .i64 y), (.int .i64 z)] 34))
    have g := gN
    clear gN
    replace R1 := Lib.hid (R1.out.below ((Below.refl _ _).alloc (Nat.le_refl _) (.cells #[(.int .i64 x), (.int .i64 y), (.int .i64 z)] 34)))
    replace R2 := Lib.hid (R2.out.below ((Below.refl _ _).alloc (Nat.le_refl _) (.cells #[(.int .i64 x), (.int .i64 y), (.int .i64 z)] 34)))
    obtain ⟨⟨of0, of1, of2⟩, -, lf⟩ := f.out.open_
    go_wp2_with fail
    refine (H4.out _).mono ?_; rintro e w15 ⟨rfl, hb⟩
    replace T := Lib.hid (bfin T.out hb)
    replace f := Lib.hid (f.out.below hb)
    replace g := Lib.hid (g.out.below hb)
    replace R1 := Lib.hid (R1.out.below hb)
    replace R2 := Lib.hid (R2.out.below hb)
    clear hb of0 of1 of2 lf
    generalize w14.heap.size = b14 at *
    have g'N := Lib.hid (Bg.new (w := w15) (p := (x)) (q := (y)) (s := (z)))
    replace T := Lib.hid (T.out.alloc T.out.size (.cells #[(.int .i64 x), (.int .i64 y), (.int .i64 z)] 34))
    replace f := Lib.hid (f.out.alloc (.cells #[(.int .i64 x), (.int .i64 y), (.int .i64 z)] 34))
    replace g := Lib.hid (g.out.alloc (.cells #[(.int .i64 x), (.int .i64 y), (.int .i64 z)] 34))
    have g' := g'N
    clear g'N
    replace R1 := Lib.hid (R1.out.below ((Below.refl _ _).alloc (Nat.le_refl _) (.cells #[(.int .i64 x), (.int .i64 y), (.int .i64 z)] 34)))
    replace R2 := Lib.hid (R2.out.below ((Below.refl _ _).alloc (Nat.le_refl _) (.cells #[(.int .i64 x), (.int .i64 y), (.int .i64 z)] 34)))
    clear H1 H2 H3 H4
    have hx1 : (k != k) = false := by simp
    have hx2 : (m != m) = false := by simp
    have hx3 : (x == x && (y == y && z == z)) = true := by simp
    have hx4 : L.length ≤ maxLen := by unfold maxLen; omega
    go_wp2_with fail
    refine (forms5_same A1 A2 L.length cap1 cap2 _ _ (flatF L) _ hfl2 hx4 R1.out R2.out).mono ?_; rintro e w16 ⟨rfl, hb⟩
    replace T := Lib.hid (bfin T.out hb)
    replace f := Lib.hid (f.out.below hb)
    replace g := Lib.hid (g.out.below hb)
    replace g' := Lib.hid (g'.out.below hb)
    replace R1 := Lib.hid (R1.out.below hb)
    clear hb
    generalize w15.heap.size = b15 at *
    clear R2 hfl2 hx4
    obtain ⟨⟨og0, og1, og2⟩, -, lg⟩ := g.out.open_
    obtain ⟨⟨og'0, og'1, og'2⟩, -, lg'⟩ := g'.out.open_
    go_upto_if 198 with (fail)
    clear og0 og1 og2 lg og'0 og'1 og'2 lg'
    clear hx1 hx2 hx3
    clear g g'
    go_cut [26, 27, 28, 29, 198] from 199 to 247 (fun _ _ _ _ _ wx => Hid (Below w.heap.size w wx))
    case first =>
      by_cases h0 : k = 0
      · subst h0
        obtain ⟨M, g, hM, hev, hf, hg, hN, hE⟩ := HO.out.yes rfl
        have HN := Lib.hid hN
        have HE := Lib.hid hE
        obtain ⟨gx, gy, gz⟩ := g
        simp only at HN HE
        have E := Lib.hid (gtF hf)
        have F := Lib.hid (gtF hg)
        clear HO hN hE hf hg
        simp only at E F
        generalize flatF L = fl at *
        generalize L.length = nn at *
        subst hM
        obtain ⟨b, rfl, -, hbl, hc, -⟩ := R1.out (by omega)
        have c0 := hc _ _ F.out.1
        have c1 := hc _ _ F.out.2.1
        have c2 := hc _ _ F.out.2.2
        clear hc
        have hM1 : ((M : Int) + 1 - 1) = (M : Int) := by omega
        go_wp2_with fail
        refine (HN.out _).mono ?_; rintro e w17 ⟨rfl, hb⟩
        replace T := Lib.hid (bfin T.out hb)
        replace f := Lib.hid (f.out.below hb)
        replace R1 := Lib.hid (R1.out.below hb)
        clear hb
        clear c0 c1 c2 hbl
        have hN := Lib.hid (Bg.new (w := w17) (p := (fa)) (q := (fb)) (s := (fc)))
        replace T := Lib.hid (T.out.alloc T.out.size (.cells #[(.int .i64 fa), (.int .i64 fb), (.int .i64 fc)] 34))
        replace f := Lib.hid (f.out.alloc (.cells #[(.int .i64 fa), (.int .i64 fb), (.int .i64 fc)] 34))
        have h := hN
        clear hN
        replace R1 := Lib.hid (R1.out.below ((Below.refl _ _).alloc (Nat.le_refl _) (.cells #[(.int .i64 fa), (.int .i64 fb), (.int .i64 fc)] 34)))
        obtain ⟨b', hb', -, hbl, hc, -⟩ := R1.out (by omega)
        injection hb' with hb'
        injection hb' with hb'
        subst hb'
        have c0 := hc _ _ F.out.1
        have c1 := hc _ _ F.out.2.1
        have c2 := hc _ _ F.out.2.2
        clear hc
        obtain ⟨⟨of0, of1, of2⟩, -, lf⟩ := f.out.open_
        go_wp2_with fail
        generalize (w17.alloc (.cells #[(.int .i64 fa), (.int .i64 fb), (.int .i64 fc)] 34)) = W18 at *
        refine wp_region_ext (by kernel_rfl) (by kernel_rfl) ?_
        repeat (go_big_quiet_step ((go_at_call 18; refine Calls.ext_of (Nat.le_refl _) (HE.out _))))
        refine wpQuiet_nil ?_
        intro w18 hb
        replace T := Lib.hid (bfin T.out hb)
        replace f := Lib.hid (f.out.below hb)
        replace h := Lib.hid (h.out.below hb)
        replace R1 := Lib.hid (R1.out.below hb)
        clear hb of0 of1 of2 lf
        generalize w17.heap.size = b17 at *
        clear c0 c1 c2 hbl
        obtain ⟨b', hb', -, hbl, hc, -⟩ := R1.out (by omega)
        injection hb' with hb'
        injection hb' with hb'
        subst hb'
        have c0 := hc 0 _ (by simpa using E.out.1)
        have c1 := hc 1 _ (by simpa using E.out.2.1)
        have c2 := hc 2 _ (by simpa using E.out.2.2)
        have hy1 : (fa == fa && (fb == fb && fc == fc)) = true := by simp
        have hev2 : ((M : Int) + 1).tmod 2 = 0 := by rw [Int.tmod_eq_emod_of_nonneg (by omega)]; omega
        have hev3 : ((M : Int) + 1) % 2 = 0 := by omega
        clear hc E F HE HN hev
        obtain ⟨⟨of0, of1, of2⟩, -, lf⟩ := f.out.open_
        obtain ⟨⟨oh0, oh1, oh2⟩, -, lh⟩ := h.out.open_
        go_wp2_with fail
        go_quiet (fail)
        go_wp2_with fail
        go_meet
        exact Lib.hid (below_drewN T.out _)
      · have h0' : (k == 0) = false := by simpa using h0
        clear h0 HO
        go_wp2_with fail
        go_meet
        exact T
    case rest =>
      clear HO T R1 f hlen
      have T := hcut
      clear hcut
      have HD := Lib.hid (fun W (h : Bytes W W.heap.size a len) => DrawFormOfMatrix_any a len cap W hl2 h)
      have HD2 := Lib.hid (fun W (h : Bytes W W.heap.size a len) => DrawAreEquivalent_any a len cap W hl2 h)
      have HD3 := Lib.hid (fun W (h : Bytes W W.heap.size a len) => DrawKeepsForm_any a len cap W hl2 h)
      go_wp2_with fail
      refine (HD.out _ (HB.out.after T.out)).mono ?_; rintro e w31 ⟨⟨ma, mb, mc, md, rfl⟩, hb⟩
      replace T := Lib.hid (bfin T.out hb)
      clear hb
      have mN := Lib.hid (Bm.new (w := w31) (p := (ma)) (q := (mb)) (s := (mc)) (u := (md)))
      replace T := Lib.hid (T.out.alloc T.out.size (.cells #[(.int .i64 ma), (.int .i64 mb), (.int .i64 mc), (.int .i64 md)] 42))
      have m := mN
      clear mN
      obtain ⟨x, y, z, k, HO⟩ := keep_ok ma mb mc md
      have H1 := Lib.hid HO.impl
      have H2 := Lib.hid HO.spec
      have HO := Lib.hid HO
      clear HD
      obtain ⟨⟨om0, om1, om2, om3⟩, -, lm⟩ := m.out.open_
      go_wp2_with fail
      refine (H1.out _).mono ?_; rintro e w32 ⟨rfl, hb⟩
      replace T := Lib.hid (bfin T.out hb)
      replace m := Lib.hid (m.out.below hb)
      clear hb om0 om1 om2 om3 lm
      generalize w31.heap.size = b31 at *
      have gN := Lib.hid (Bg.new (w := w32) (p := (x)) (q := (y)) (s := (z)))
      replace T := Lib.hid (T.out.alloc T.out.size (.cells #[(.int .i64 x), (.int .i64 y), (.int .i64 z)] 34))
      replace m := Lib.hid (m.out.alloc (.cells #[(.int .i64 x), (.int .i64 y), (.int .i64 z)] 34))
      have g := gN
      clear gN
      obtain ⟨⟨om0, om1, om2, om3⟩, -, lm⟩ := m.out.open_
      go_wp2_with fail
      refine (H2.out _).mono ?_; rintro e w33 ⟨rfl, hb⟩
      replace T := Lib.hid (bfin T.out hb)
      replace m := Lib.hid (m.out.below hb)
      replace g := Lib.hid (g.out.below hb)
      clear hb om0 om1 om2 om3 lm
      generalize w32.heap.size = b32 at *
      have g'N := Lib.hid (Bg.new (w := w33) (p := (x)) (q := (y)) (s := (z)))
      replace T := Lib.hid (T.out.alloc T.out.size (.cells #[(.int .i64 x), (.int .i64 y), (.int .i64 z)] 34))
      replace m := Lib.hid (m.out.alloc (.cells #[(.int .i64 x), (.int .i64 y), (.int .i64 z)] 34))
      replace g := Lib.hid (g.out.alloc (.cells #[(.int .i64 x), (.int .i64 y), (.int .i64 z)] 34))
      have g' := g'N
      clear g'N
      clear H1 H2
      have hx1 : (k != k) = false := by simp
      have hx2 : (x == x && (y == y && z == z)) = true := by simp
      obtain ⟨⟨og0, og1, og2⟩, -, lg⟩ := g.out.open_
      obtain ⟨⟨og'0, og'1, og'2⟩, -, lg'⟩ := g'.out.open_
      go_upto_if 269 with (fail)
      generalize w33.heap.size = b33 at *
      clear og0 og1 og2 lg og'0 og'1 og'2 lg'
      clear hx1 hx2
      clear g'
      go_cut [35, 36, 269] from 270 to 289 (fun _ _ _ wx => Hid (Below w.heap.size w wx))
      case first =>
        by_cases h0 : k = 0
        · subst h0
          obtain ⟨KB, km, hk, hK⟩ := HO.out.yes rfl
          have HK := Lib.hid hK
          clear HO hK
          obtain ⟨⟨og0, og1, og2⟩, -, lg⟩ := g.out.open_
          obtain ⟨⟨om0, om1, om2, om3⟩, -, lm⟩ := m.out.open_
          go_wp2_with fail
          refine (HK.out _).mono ?_; rintro e w34 ⟨rfl, hb⟩
          replace T := Lib.hid (bfin T.out hb)
          replace m := Lib.hid (m.out.below hb)
          replace g := Lib.hid (g.out.below hb)
          clear hb og0 og1 og2 lg om0 om1 om2 om3 lm
          rcases hk with ⟨rfl, rfl⟩ | rfl
          · go_wp2_with fail
            go_meet
            exact T
          · go_wp2_with fail
            go_meet
            exact T
        · have h0' : (k == 0) = false := by simpa using h0
          clear h0 HO
          go_wp2_with fail
          go_meet
          exact T
      case rest =>
        clear HO T g m
        have T := hcut
        clear hcut
        go_wp2_with fail
        refine (HD2.out _ (HB.out.after T.out)).mono ?_; rintro e w41 ⟨⟨fa, fb, fc, ga, gb, gc, rfl⟩, hb⟩
        replace T := Lib.hid (bfin T.out hb)
        clear hb
        have fN := Lib.hid (Bg.new (w := w41) (p := (fa)) (q := (fb)) (s := (fc)))
        replace T := Lib.hid (T.out.alloc T.out.size (.cells #[(.int .i64 fa), (.int .i64 fb), (.int .i64 fc)] 34))
        have f := fN
        clear fN
        have gN := Lib.hid (Bg.newE (g := w41.heap.size + 1) (w := (w41.alloc (.cells #[(.int .i64 fa), (.int .i64 fb), (.int .i64 fc)] 34))) (p := (ga)) (q := (gb)) (s := (gc)) (by simp))
        replace T := Lib.hid (T.out.alloc T.out.size (.cells #[(.int .i64 ga), (.int .i64 gb), (.int .i64 gc)] 34))
        replace f := Lib.hid (f.out.alloc (.cells #[(.int .i64 ga), (.int .i64 gb), (.int .i64 gc)] 34))
        have g := gN
        clear gN
        obtain ⟨k, B, HO⟩ := equ_ok fa fb fc ga gb gc
        have H1 := Lib.hid HO.impl
        have H2 := Lib.hid HO.spec
        have HO := Lib.hid HO
        clear HD2
        obtain ⟨⟨of0, of1, of2⟩, -, lf⟩ := f.out.open_
        obtain ⟨⟨og0, og1, og2⟩, -, lg⟩ := g.out.open_
        go_wp2_with fail
        refine (H1.out _).mono ?_; rintro e w42 ⟨rfl, hb⟩
        replace T := Lib.hid (bfin T.out hb)
        replace f := Lib.hid (f.out.below hb)
        replace g := Lib.hid (g.out.below hb)
        clear hb of0 of1 of2 lf og0 og1 og2 lg
        generalize w41.heap.size = b41 at *
        obtain ⟨⟨of0, of1, of2⟩, -, lf⟩ := f.out.open_
        obtain ⟨⟨og0, og1, og2⟩, -, lg⟩ := g.out.open_
        go_wp2_with fail
        refine (H2.out _).mono ?_; rintro e w43 ⟨rfl, hb⟩
        replace T := Lib.hid (bfin T.out hb)
        replace f := Lib.hid (f.out.below hb)
        replace g := Lib.hid (g.out.below hb)
        clear hb of0 of1 of2 lf og0 og1 og2 lg
        clear H1 H2
        have hx1 : (k != k) = false := by simp
        have hx2 : (B != B) = false := by simp
        go_upto_if 315 with (fail)
        clear hx1 hx2
        go_cut [43, 44, 45, 46, 315] from 316 to 336 (fun _ _ _ _ _ wx => Hid (Below w.heap.size w wx))
        case first =>
          cases B
          · clear HO
            go_wp2_with fail
            go_meet
            exact T
          · obtain ⟨D, hD1, hD2⟩ := HO.out.yes rfl
            have H1 := Lib.hid hD1
            have H2 := Lib.hid hD2
            clear HO hD1 hD2
            have hx1 : (D != D) = false := by simp
            obtain ⟨⟨of0, of1, of2⟩, -, lf⟩ := f.out.open_
            go_wp2_with fail
            refine (H1.out _).mono ?_; rintro e w44 ⟨rfl, hb⟩
            replace T := Lib.hid (bfin T.out hb)
            replace f := Lib.hid (f.out.below hb)
            replace g := Lib.hid (g.out.below hb)
            clear hb of0 of1 of2 lf
            obtain ⟨⟨og0, og1, og2⟩, -, lg⟩ := g.out.open_
            go_wp2_with fail
            refine (H2.out _).mono ?_; rintro e w45 ⟨rfl, hb⟩
            replace T := Lib.hid (bfin T.out hb)
            replace f := Lib.hid (f.out.below hb)
            replace g := Lib.hid (g.out.below hb)
            clear hb og0 og1 og2 lg
            go_wp2_with fail
            go_meet
            exact T
        case rest =>
          clear HO T f g
          have T := hcut
          clear hcut
          go_wp2_with fail
          refine (HD3.out _ (HB.out.after T.out)).mono ?_; rintro e w51 ⟨⟨fa, fb, fc, ma, mb, mc, md, rfl⟩, hb⟩
          replace T := Lib.hid (bfin T.out hb)
          clear hb
          have fN := Lib.hid (Bg.new (w := w51) (p := (fa)) (q := (fb)) (s := (fc)))
          replace T := Lib.hid (T.out.alloc T.out.size (.cells #[(.int .i64 fa), (.int .i64 fb), (.int .i64 fc)] 34))
          have f := fN
          clear fN
          have mN := Lib.hid (Bm.newE (g := w51.heap.size + 1) (w := (w51.alloc (.cells #[(.int .i64 fa), (.int .i64 fb), (.int .i64 fc)] 34))) (p := (ma)) (q := (mb)) (s := (mc)) (u := (md)) (by simp))
          replace T := Lib.hid (T.out.alloc T.out.size (.cells #[(.int .i64 ma), (.int .i64 mb), (.int .i64 mc), (.int .i64 md)] 42))
          replace f := Lib.hid (f.out.alloc (.cells #[(.int .i64 ma), (.int .i64 mb), (.int .i64 mc), (.int .i64 md)] 42))
          have m := mN
          clear mN
          have H1 := Lib.hid (fun W => KeepsForm_any fa fb fc ma mb mc md W)
          have H2 := Lib.hid (fun W => sKeepsForm_any fa fb fc ma mb mc md W)
          generalize keepsF fa fb fc ma mb mc md = R at *
          obtain ⟨rb, rk⟩ := R
          simp only at H1 H2
          clear HD3
          obtain ⟨⟨of0, of1, of2⟩, -, lf⟩ := f.out.open_
          obtain ⟨⟨om0, om1, om2, om3⟩, -, lm⟩ := m.out.open_
          go_wp2_with fail
          refine (H1.out _).mono ?_; rintro e w52 ⟨rfl, hb⟩
          replace T := Lib.hid (bfin T.out hb)
          replace f := Lib.hid (f.out.below hb)
          replace m := Lib.hid (m.out.below hb)
          clear hb of0 of1 of2 lf om0 om1 om2 om3 lm
          generalize w51.heap.size = b51 at *
          obtain ⟨⟨of0, of1, of2⟩, -, lf⟩ := f.out.open_
          obtain ⟨⟨om0, om1, om2, om3⟩, -, lm⟩ := m.out.open_
          go_wp2_with fail
          refine (H2.out _).mono ?_; rintro e w53 ⟨rfl, hb⟩
          replace T := Lib.hid (bfin T.out hb)
          replace f := Lib.hid (f.out.below hb)
          replace m := Lib.hid (m.out.below hb)
          clear hb of0 of1 of2 lf om0 om1 om2 om3 lm
          have hx1 : (rk == rk) = true := by simp
          have hx2 : (rb == rb) = true := by simp
          go_wp2_with fail
          go_ret
          exact ⟨rfl, T.out⟩
end Go.Proofs.Ytcaiofhdcffogaa
