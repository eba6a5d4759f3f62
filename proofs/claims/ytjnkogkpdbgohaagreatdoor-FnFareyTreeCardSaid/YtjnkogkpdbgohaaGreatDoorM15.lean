/- The walk of the great law of Farey's tree. -/
import Derived.Test.YtjnkogkpdbgohaaGreatDoorM14
import Derived.Deep.DeepCutAuto
namespace Go.Proofs.YtjnkogkpdbgohaaGreatDoor
open Go.RowKit
theorem flat2_at {l : List P2} {k : Nat} {x : P2} (h : l[k]? = some x) : (ints (flat2 l))[k * 2]? = some (.int .i64 x.x) ∧ (ints (flat2 l))[k * 2 + 1]? = some (.int .i64 x.y) := by
  induction l generalizing k with
  | nil => simp at h
  | cons a l ih =>
    cases k with
    | zero => simp at h; subst h; simp [ints, flat2]
    | succ k =>
      have := ih (k := k) (by simpa using h)
      have e : ints (flat2 (a :: l)) = .int .i64 a.x :: .int .i64 a.y :: ints (flat2 l) := by simp [ints, flat2]
      rw [e, show (k + 1) * 2 = k * 2 + 2 by omega, show k * 2 + 2 + 1 = (k * 2 + 1) + 2 by omega]
      simpa using this
attribute [local go_sem] eqFracM
set_option maxRecDepth 100000 in
set_option maxHeartbeats 2000000 in
theorem fractions5_same (A A' : Option Addr) (n cap cap' B B' : Nat) (xs : List Int) (w : World) (hl : xs.length = n * 2) (hn : n ≤ maxLen) (h : RowAt w B A n (ints xs)) (h' : RowAt w B' A' n (ints xs)) :
    Calls Tryz.prog 8 #[.slice A n cap, .slice A' n cap'] w fun e w' => e = .returned (.bool true) ∧ Below w.heap.size w w' := by
  have HL := Lib.hid hl
  unfold maxLen at hn
  clear hl
  go_enter Tryz.func8, Tryz.ntmps8
  go_wp2_with fail
  go_loopw [5] (fun i wr => ∃ k : Nat, i = (.int .i64 ((k : Int))) ∧ k ≤ n ∧ Below w.heap.size w wr) (fun i _ => n - (intOf i).toNat)
  case atStart => exact ⟨0, rfl, Nat.zero_le _, Below.refl _ _⟩
  case round =>
    obtain ⟨k, rfl, hk, hb⟩ := hrel
    by_cases hlt : k < n
    · obtain ⟨b, rfl, -, hl1, hc, -⟩ := (h.below hb) (by omega)
      obtain ⟨b', rfl, -, hl2, hc', -⟩ := (h'.below hb) (by omega)
      have h0 := hc (k * 2) _ (ints_at (by rw [HL.out]; omega))
      have g0 := hc' (k * 2) _ (ints_at (by rw [HL.out]; omega))
      have h1 := hc (k * 2 + 1) _ (ints_at (by rw [HL.out]; omega))
      have g1 := hc' (k * 2 + 1) _ (ints_at (by rw [HL.out]; omega))
      generalize xs.getD (k * 2) 0 = x0 at h0 g0
      generalize xs.getD (k * 2 + 1) 0 = x1 at h1 g1
      have hx0 : (x0 == x0) = true := by simp
      have hx1 : (x1 == x1) = true := by simp
      clear hc hc' h h'
      go_wp2_with fail
      go_quiet (fail)
      go_wp2_with fail
      go_roundw
      case rel => exact ⟨k + 1, by go_num, by omega, below_drewN hb _⟩
      case measure => simp [intOf]; omega
    · clear h h'
      go_wp2_with fail
      go_ret
      exact ⟨rfl, hb⟩
attribute [local go_sem] eqFracM
theorem ti_len (N : Int) : (tiRes N).1.length ≤ 128 := by
  unfold tiRes
  split
  · rename_i h
    exact tierL_small (by simp [inB] at h; omega) _
  · simp
set_option maxRecDepth 1000000 in
set_option maxHeartbeats 16000000 in
theorem lawFnFareyTree (a : Option Addr) (len cap : Nat) (w : World) (hl : len ≤ maxLen) (hb : Bytes w w.heap.size a len) :
    Calls Tryz.prog 3 #[.slice a len cap] w fun e w' => e = .returned (.bool true) ∧ Below w.heap.size w w' := by
  have HB := Lib.hid hb
  have HG := Lib.hid (big_any a len cap w hl)
  unfold maxLen at hl
  clear hb
  by_cases hbig : 4096 < len
  · rw [show decide (4096 < len) = true by simpa using hbig] at HG
    go_enter Tryz.func3, Tryz.ntmps3
    go_wp2_with fail
    refine HG.out.mono ?_; rintro e w' ⟨rfl, rfl⟩
    go_wp2_with fail
    go_ret
    exact ⟨rfl, Below.refl _ _⟩
  rw [show decide (4096 < len) = false by simpa using hbig] at HG
  have hl2 : len ≤ 1152921504606846976 := by omega
  have T := Lib.hid (Below.refl w.heap.size w)
  go_enter Tryz.func3, Tryz.ntmps3
  go_wp2_with fail
  refine HG.out.mono ?_; rintro e w' ⟨rfl, rfl⟩
  clear HG
  go_wp2_with fail
  refine (DrawFareyRow_any a len cap w hl2 HB.out).mono ?_; rintro e w1 ⟨⟨N, rfl⟩, hb⟩
  replace T := Lib.hid (bfin T.out hb)
  clear hb
  obtain ⟨L, k, HO⟩ := fr_ok N
  have H1 := Lib.hid HO.imp
  have H2 := Lib.hid HO.spc
  have hlenL := HO.len
  have HU := Lib.hid HO.use
  clear HO
  go_wp2_with fail
  refine (H1.out _).mono ?_; rintro e w2 ⟨v1, rfl, ho1, hb⟩
  replace T := Lib.hid (bfin T.out hb)
  clear hb
  generalize w1.heap.size = b1 at *
  obtain ⟨A1, cap1, rfl, -, -, hat1⟩ := own_view ho1
  have R1 := Lib.hid hat1
  clear ho1 hat1
  go_wp2_with fail
  refine (H2.out _).mono ?_; rintro e w3 ⟨v2, rfl, ho2, hb⟩
  replace T := Lib.hid (bfin T.out hb)
  replace R1 := Lib.hid (R1.out.below hb)
  clear hb
  obtain ⟨A2, cap2, rfl, -, -, hat2⟩ := own_view ho2
  have R2 := Lib.hid hat2
  clear ho2 hat2 H1 H2
  have hfl : (flat2 L).length = L.length * 2 := flat2_len L
  have hx1 : (k != k) = false := by simp
  have hx4 : L.length ≤ maxLen := by unfold maxLen; omega
  go_wp2_with fail
  refine (fractions5_same A1 A2 L.length cap1 cap2 _ _ (flat2 L) _ hfl hx4 R1.out R2.out).mono ?_; rintro e w4 ⟨rfl, hb⟩
  replace T := Lib.hid (bfin T.out hb)
  replace R1 := Lib.hid (R1.out.below hb)
  clear hb
  clear R2 hx4 hfl
  go_upto_if 91 with (fail)
  clear hx1
  go_cut [8, 9, 10, 11, 12, 13, 14, 91] from 92 to 151 (fun _ _ _ _ _ _ _ _ wx => Hid (Below w.heap.size w wx))
  case first =>
    by_cases h0 : k = 0
    · subst h0
      obtain ⟨ucnt, ustep, upos⟩ := HU.out rfl
      have HC := Lib.hid (fun W => CountInRow_any N W)
      rw [ucnt] at HC
      simp only at HC
      have HN := Lib.hid (show ∀ j, j + 1 < L.length → ∃ x y : P2, L[j]? = some x ∧ L[j + 1]? = some y ∧ StepUse N x y from fun j hj => by
        have h1 : j < L.length := by omega
        exact ⟨L[j], L[j + 1], List.getElem?_eq_getElem h1, List.getElem?_eq_getElem hj, ustep j _ _ (List.getElem?_eq_getElem h1) (List.getElem?_eq_getElem hj)⟩)
      clear HU ucnt ustep
      go_wp2_with fail
      refine (HC.out _).mono ?_; rintro e w5 ⟨rfl, hb⟩
      replace T := Lib.hid (bfin T.out hb)
      replace R1 := Lib.hid (R1.out.below hb)
      clear hb
      clear HC
      have hx2 : (((L.length : Nat) : Int) != ((L.length : Nat) : Int)) = false := by simp
      go_wp2_with fail
      obtain ⟨g, rfl, -, hgl, -, -⟩ := R1.out upos
      go_loopw [10, 11, 12, 13, 14] (fun i _ _ _ _ wr => ∃ j : Nat, i = (.int .i64 ((j : Int) + 1)) ∧ j + 1 ≤ L.length ∧ Hid (Below w.heap.size w wr) ∧ Hid (∃ B0, RowAt wr B0 (some ⟨g, 0, none⟩) L.length (ints (flat2 L)))) (fun i _ _ _ _ _ => L.length + 1 - (intOf i).toNat)
      case atStart => exact ⟨0, rfl, upos, T, Lib.hid ⟨_, R1.out⟩⟩
      case round =>
        clear T R1 hgl
        obtain ⟨j, rfl, hj, T, R1⟩ := hrel
        by_cases hlt : j + 1 < L.length
        · obtain ⟨B0, hR⟩ := R1.out
          obtain ⟨x, y, hx, hy, hu⟩ := HN.out j hlt
          obtain ⟨unear, unext, unt⟩ := hu
          have HA := Lib.hid (fun W => AreNeighbours_any x.x x.y y.x y.y W)
          rw [unear] at HA
          have HX := Lib.hid (fun W => NextInRow_any N x.x x.y y.x y.y W (fun _ => unt))
          rw [unext] at HX
          simp only at HA HX
          obtain ⟨x0, x1⟩ := flat2_at hx
          obtain ⟨y0, y1⟩ := flat2_at hy
          have HCL := Lib.hid (show ∀ B (W : World), RowAt W B (some ⟨g, 0, none⟩) L.length (ints (flat2 L)) → (W.cell? ⟨g, j * 2, none⟩ = some (.int .i64 x.x) ∧ W.cell? ⟨g, j * 2 + 1, none⟩ = some (.int .i64 x.y) ∧ W.cell? ⟨g, (j + 1) * 2, none⟩ = some (.int .i64 y.x) ∧ W.cell? ⟨g, (j + 1) * 2 + 1, none⟩ = some (.int .i64 y.y)) ∧ g < W.heap.size from fun B W hR => by
            obtain ⟨g', hg', -, hgl, hcell, -⟩ := hR upos
            injection hg' with hg'
            injection hg' with hg'
            subst hg'
            exact ⟨⟨hcell _ _ x0, hcell _ _ x1, hcell _ _ y0, hcell _ _ y1⟩, hgl⟩)
          obtain ⟨⟨c0, c1, c2, c3⟩, hgl⟩ := HCL.out _ _ hR
          generalize x.x = xx at *
          generalize x.y = xy at *
          generalize y.x = yx at *
          generalize y.y = yy at *
          replace R1 := Lib.hid hR
          have hlt2 : (j : Int) + 1 < ((L.length : Nat) : Int) := by omega
          have hlt3 : (j : Int) < ((L.length : Nat) : Int) := by omega
          clear x0 x1 y0 y1 hx hy HN hR unear unext unt
          go_wp2_with fail
          refine wp_region_ext (by kernel_rfl) (by kernel_rfl) ?_
          repeat (go_big_quiet_step (first | (go_at_call 10; refine Calls.ext_of (Nat.le_refl _) (HA.out _))))
          refine wpQuiet_nil ?_
          intro w10 hb
          replace T := Lib.hid (bfin T.out hb)
          replace R1 := Lib.hid (R1.out.below hb)
          clear hb c0 c1 c2 c3 hgl HA
          obtain ⟨⟨c0, c1, c2, c3⟩, hgl⟩ := HCL.out _ _ R1.out
          go_wp2_with fail
          refine (HX.out _).mono ?_; rintro e w11 ⟨rfl, hb⟩
          replace T := Lib.hid (bfin T.out hb)
          replace R1 := Lib.hid (R1.out.below hb)
          clear hb c0 c1 c2 c3 hgl HX
          obtain ⟨⟨c0, c1, c2, c3⟩, hgl⟩ := HCL.out _ _ R1.out
          replace T := Lib.hid (T.out.alloc T.out.size (.cells #[(.int .i64 yx), (.int .i64 yy)] 34))
          replace R1 := Lib.hid (R1.out.below ((Below.refl _ _).alloc (Nat.le_refl _) (.cells #[(.int .i64 yx), (.int .i64 yy)] 34)))
          have hx5 : (yx == yx && yy == yy) = true := by simp
          go_upto_region 17 with (fail)
          have Y := Lib.hid (show Blk2 (w11.alloc (.cells #[(.int .i64 yx), (.int .i64 yy)] 34)) w11.heap.size 34 yx yy from heap_new)
          generalize w11.alloc (.cells #[(.int .i64 yx), (.int .i64 yy)] 34) = W12 at *
          generalize w11.heap.size = g12 at *
          obtain ⟨⟨y0, y1⟩, -, hyl⟩ := Y.out.open_
          clear c0 c1 c2 c3 hgl
          obtain ⟨⟨c0, c1, c2, c3⟩, hgl⟩ := HCL.out _ _ R1.out
          refine wp_region_ext (by kernel_rfl) (by kernel_rfl) ?_
          repeat (go_big_quiet_step (fail))
          refine wpQuiet_nil ?_
          intro w13 hb
          replace T := Lib.hid (bfin T.out hb)
          replace R1 := Lib.hid (R1.out.below hb)
          clear hb c0 c1 c2 c3 hgl y0 y1 hyl Y
          go_wp2_with fail
          go_roundw
          case rel => exact ⟨j + 1, by go_num, by omega, T, Lib.hid ⟨_, R1.out⟩⟩
          case measure => simp [intOf]; omega
        · have hlt2 : ¬ (j : Int) + 1 < ((L.length : Nat) : Int) := by omega
          clear HN
          go_wp2_with fail
          go_meet
          exact T
    · have h0' : (k == 0) = false := by simpa using h0
      clear h0 HU
      go_wp2_with fail
      go_meet
      exact T
  case rest =>
    clear HU T R1 hlenL
    have T := hcut
    clear hcut
    have HD := Lib.hid (fun W (h : Bytes W W.heap.size a len) => DrawPathOf_any a len cap W hl2 h)
    go_wp2_with fail
    refine (HD.out _ (HB.out.after T.out)).mono ?_; rintro e w21 ⟨⟨P, Q, rfl⟩, hb⟩
    replace T := Lib.hid (bfin T.out hb)
    clear hb
    have fN := Lib.hid (Bf.new (w := w21) (p := (P)) (q := (Q)))
    replace T := Lib.hid (T.out.alloc T.out.size (.cells #[(.int .i64 P), (.int .i64 Q)] 34))
    have f := fN
    clear fN
    obtain ⟨R, s, k6, k8, HO⟩ := tr_ok P Q
    have H1 := Lib.hid HO.p1
    have H2 := Lib.hid HO.p2
    have H3 := Lib.hid HO.q1
    have H4 := Lib.hid HO.q2
    have hlenS := HO.len
    have HU1 := Lib.hid HO.near
    have HU2 := Lib.hid HO.med
    have HU3 := Lib.hid HO.cmp1
    have HU4 := Lib.hid HO.cmp2
    have HU5 := Lib.hid HO.back
    clear HO HD
    obtain ⟨ra, rb, rc, rd⟩ := R
    simp only at H3 H4 HU1 HU2 HU3 HU4
    go_wp2_with fail
    refine (H1.out _).mono ?_; rintro e w22 ⟨rfl, hb⟩
    replace T := Lib.hid (bfin T.out hb)
    replace f := Lib.hid (f.out.below hb)
    clear hb
    generalize w21.heap.size = b21 at *
    obtain ⟨⟨of0, of1⟩, -, lf⟩ := f.out.open_
    go_wp2_with fail
    refine (H2.out _).mono ?_; rintro e w23 ⟨rfl, hb⟩
    replace T := Lib.hid (bfin T.out hb)
    replace f := Lib.hid (f.out.below hb)
    clear hb of0 of1 lf
    obtain ⟨⟨of0, of1⟩, -, lf⟩ := f.out.open_
    go_wp2_with fail
    refine (H3.out _).mono ?_; rintro e w24 ⟨rfl, hb⟩
    replace T := Lib.hid (bfin T.out hb)
    replace f := Lib.hid (f.out.below hb)
    clear hb of0 of1 lf
    have lN := Lib.hid (Bf.new (w := w24) (p := (ra)) (q := (rb)))
    replace T := Lib.hid (T.out.alloc T.out.size (.cells #[(.int .i64 ra), (.int .i64 rb)] 34))
    replace f := Lib.hid (f.out.alloc (.cells #[(.int .i64 ra), (.int .i64 rb)] 34))
    have l := lN
    clear lN
    have rN := Lib.hid (Bf.newE (g := w24.heap.size + 1) (w := (w24.alloc (.cells #[(.int .i64 ra), (.int .i64 rb)] 34))) (p := (rc)) (q := (rd)) (by simp))
    replace T := Lib.hid (T.out.alloc T.out.size (.cells #[(.int .i64 rc), (.int .i64 rd)] 34))
    replace f := Lib.hid (f.out.alloc (.cells #[(.int .i64 rc), (.int .i64 rd)] 34))
    replace l := Lib.hid (l.out.alloc (.cells #[(.int .i64 rc), (.int .i64 rd)] 34))
    have r := rN
    clear rN
    obtain ⟨⟨of0, of1⟩, -, lf⟩ := f.out.open_
    go_wp2_with fail
    refine (H4.out _).mono ?_; rintro e w25 ⟨rfl, hb⟩
    replace T := Lib.hid (bfin T.out hb)
    replace f := Lib.hid (f.out.below hb)
    replace l := Lib.hid (l.out.below hb)
    replace r := Lib.hid (r.out.below hb)
    clear hb of0 of1 lf
    generalize w24.heap.size = b24 at *
    have l2N := Lib.hid (Bf.new (w := w25) (p := (ra)) (q := (rb)))
    replace T := Lib.hid (T.out.alloc T.out.size (.cells #[(.int .i64 ra), (.int .i64 rb)] 34))
    replace f := Lib.hid (f.out.alloc (.cells #[(.int .i64 ra), (.int .i64 rb)] 34))
    replace l := Lib.hid (l.out.alloc (.cells #[(.int .i64 ra), (.int .i64 rb)] 34))
    replace r := Lib.hid (r.out.alloc (.cells #[(.int .i64 ra), (.int .i64 rb)] 34))
    have l2 := l2N
    clear l2N
    have r2N := Lib.hid (Bf.newE (g := w25.heap.size + 1) (w := (w25.alloc (.cells #[(.int .i64 ra), (.int .i64 rb)] 34))) (p := (rc)) (q := (rd)) (by simp))
    replace T := Lib.hid (T.out.alloc T.out.size (.cells #[(.int .i64 rc), (.int .i64 rd)] 34))
    replace f := Lib.hid (f.out.alloc (.cells #[(.int .i64 rc), (.int .i64 rd)] 34))
    replace l := Lib.hid (l.out.alloc (.cells #[(.int .i64 rc), (.int .i64 rd)] 34))
    replace r := Lib.hid (r.out.alloc (.cells #[(.int .i64 rc), (.int .i64 rd)] 34))
    replace l2 := Lib.hid (l2.out.alloc (.cells #[(.int .i64 rc), (.int .i64 rd)] 34))
    have r2 := r2N
    clear r2N
    clear H1 H2 H3 H4
    have hx1 : (k6 != k6) = false := by simp
    have hx2 : (k8 != k8) = false := by simp
    have hx3 : (ra == ra && rb == rb) = true := by simp
    have hx4 : (rc == rc && rd == rd) = true := by simp
    obtain ⟨⟨ol0, ol1⟩, -, ll⟩ := l.out.open_
    obtain ⟨⟨or0, or1⟩, -, lr⟩ := r.out.open_
    obtain ⟨⟨ol20, ol21⟩, -, ll2⟩ := l2.out.open_
    obtain ⟨⟨or20, or21⟩, -, lr2⟩ := r2.out.open_
    go_upto_if 200 with (fail)
    generalize w25.heap.size = b25 at *
    clear hx1 hx2 hx3 hx4
    clear ol0 ol1 ll or0 or1 lr ol20 ol21 ll2 or20 or21 lr2
    clear l2 r2
    go_cut [26, 27, 28, 29, 30, 31, 32, 33, 200] from 201 to 255 (fun _ _ _ _ _ _ _ _ _ wx => Hid (Below w.heap.size w wx) ∧ Hid (Bf wx b21 P Q))
    case first =>
      by_cases h0 : k8 = 0
      · subst h0
        have HA := Lib.hid (fun W => AreNeighbours_any ra rb rc rd W)
        have HM := Lib.hid (fun W => MediantOf_any ra rb rc rd W)
        have HC1 := Lib.hid (fun W => CompareFractions_any ra rb P Q W)
        have HC2 := Lib.hid (fun W => CompareFractions_any P Q rc rd W)
        rw [HU1.out rfl] at HA
        rw [HU2.out rfl] at HM
        rw [HU3.out rfl] at HC1
        rw [HU4.out rfl] at HC2
        simp only at HA HM HC1 HC2
        clear HU1 HU2 HU3 HU4 HU5
        obtain ⟨⟨ol0, ol1⟩, -, ll⟩ := l.out.open_
        obtain ⟨⟨or0, or1⟩, -, lr⟩ := r.out.open_
        go_wp2_with fail
        refine (HA.out _).mono ?_; rintro e w26 ⟨rfl, hb⟩
        replace T := Lib.hid (bfin T.out hb)
        replace f := Lib.hid (f.out.below hb)
        replace l := Lib.hid (l.out.below hb)
        replace r := Lib.hid (r.out.below hb)
        clear hb ol0 ol1 ll or0 or1 lr
        obtain ⟨⟨ol0, ol1⟩, -, ll⟩ := l.out.open_
        obtain ⟨⟨or0, or1⟩, -, lr⟩ := r.out.open_
        go_wp2_with fail
        refine (HM.out _).mono ?_; rintro e w27 ⟨rfl, hb⟩
        replace T := Lib.hid (bfin T.out hb)
        replace f := Lib.hid (f.out.below hb)
        replace l := Lib.hid (l.out.below hb)
        replace r := Lib.hid (r.out.below hb)
        clear hb ol0 ol1 ll or0 or1 lr
        generalize w27.heap.size = b27 at *
        have mN := Lib.hid (Bf.new (w := w27) (p := (P)) (q := (Q)))
        replace T := Lib.hid (T.out.alloc T.out.size (.cells #[(.int .i64 P), (.int .i64 Q)] 34))
        replace f := Lib.hid (f.out.alloc (.cells #[(.int .i64 P), (.int .i64 Q)] 34))
        replace l := Lib.hid (l.out.alloc (.cells #[(.int .i64 P), (.int .i64 Q)] 34))
        replace r := Lib.hid (r.out.alloc (.cells #[(.int .i64 P), (.int .i64 Q)] 34))
        have m := mN
        clear mN
        obtain ⟨⟨ol0, ol1⟩, -, ll⟩ := l.out.open_
        obtain ⟨⟨of0, of1⟩, -, lf⟩ := f.out.open_
        go_wp2_with fail
        refine (HC1.out _).mono ?_; rintro e w28 ⟨rfl, hb⟩
        replace T := Lib.hid (bfin T.out hb)
        replace f := Lib.hid (f.out.below hb)
        replace l := Lib.hid (l.out.below hb)
        replace r := Lib.hid (r.out.below hb)
        replace m := Lib.hid (m.out.below hb)
        clear hb ol0 ol1 ll of0 of1 lf
        obtain ⟨⟨of0, of1⟩, -, lf⟩ := f.out.open_
        obtain ⟨⟨or0, or1⟩, -, lr⟩ := r.out.open_
        go_wp2_with fail
        refine (HC2.out _).mono ?_; rintro e w29 ⟨rfl, hb⟩
        replace T := Lib.hid (bfin T.out hb)
        replace f := Lib.hid (f.out.below hb)
        replace l := Lib.hid (l.out.below hb)
        replace r := Lib.hid (r.out.below hb)
        replace m := Lib.hid (m.out.below hb)
        clear hb of0 of1 lf or0 or1 lr
        clear HA HM HC1 HC2
        have hx1 : (P == P && Q == Q) = true := by simp
        obtain ⟨⟨om0, om1⟩, -, lm⟩ := m.out.open_
        obtain ⟨⟨of0, of1⟩, -, lf⟩ := f.out.open_
        go_wp2_with fail
        go_meet
        exact ⟨T, f⟩
      · have h0' : (k8 == 0) = false := by simpa using h0
        clear h0 HU1 HU2 HU3 HU4 HU5
        go_wp2_with fail
        go_meet
        exact ⟨T, f⟩
    case rest =>
      clear HU1 HU2 HU3 HU4 T f l r
      obtain ⟨T, f⟩ := hcut
      go_upto_region 33 with (fail)
      go_cut [262] from 256 to 261 (fun c wx => Hid (c = .bool ((k6 == 0) && decide (s.size ≤ 40))) ∧ Hid (Below w.heap.size w wx) ∧ Hid (Bf wx b21 P Q))
      case first =>
        clear HU5
        by_cases h0 : k6 = 0
        · subst h0
          by_cases h1 : s.size ≤ 40
          · have h2 : (s.size : Int) ≤ 40 := by omega
            go_wp2_with fail
            go_meet
            exact ⟨Lib.hid (by rw [decide_eq_true h1]; rfl), T, f⟩
          · have h2 : ¬ (s.size : Int) ≤ 40 := by omega
            go_wp2_with fail
            go_meet
            exact ⟨Lib.hid (by rw [decide_eq_false h1]; rfl), T, f⟩
        · have h0' : (k6 == 0) = false := by simpa using h0
          go_wp2_with fail
          go_meet
          exact ⟨Lib.hid (by rw [h0']; rfl), T, f⟩
      case rest =>
        clear T f
        obtain ⟨HC6, T, f⟩ := hcut
        have hc6 := HC6.out
        subst hc6
        clear HC6
        have HB6 := Lib.hid (show ((k6 == 0) && decide (s.size ≤ 40)) = true → fpRes s = ((P, Q), 0) from fun h => by
          rw [Bool.and_eq_true, beq_iff_eq, decide_eq_true_eq] at h
          exact HU5.out h.1 h.2)
        clear HU5
        generalize ((k6 == 0) && decide (s.size ≤ 40)) = B at *
        go_upto_if 262 with (fail)
        go_cut [34, 35] from 263 to 274 (fun _ _ wx => Hid (Below w.heap.size w wx))
        case first =>
          cases B
          · clear HB6
            go_wp2_with fail
            go_meet
            exact T
          · have HF := Lib.hid (fun W => FractionOfPath_any s W (by omega))
            rw [HB6.out rfl] at HF
            simp only at HF
            clear HB6
            go_wp2_with fail
            refine (HF.out _).mono ?_; rintro e w41 ⟨rfl, hb⟩
            replace T := Lib.hid (bfin T.out hb)
            replace f := Lib.hid (f.out.below hb)
            clear hb
            generalize w41.heap.size = b41 at *
            have mN := Lib.hid (Bf.new (w := w41) (p := (P)) (q := (Q)))
            replace T := Lib.hid (T.out.alloc T.out.size (.cells #[(.int .i64 P), (.int .i64 Q)] 34))
            replace f := Lib.hid (f.out.alloc (.cells #[(.int .i64 P), (.int .i64 Q)] 34))
            have m := mN
            clear mN
            have hx1 : (P == P && Q == Q) = true := by simp
            clear HF
            obtain ⟨⟨om0, om1⟩, -, lm⟩ := m.out.open_
            obtain ⟨⟨of0, of1⟩, -, lf⟩ := f.out.open_
            go_wp2_with fail
            go_meet
            exact T
        case rest =>
          clear T f HB6
          have T := hcut
          clear hcut
          have HD := Lib.hid (fun W (h : Bytes W W.heap.size a len) => DrawMediantOf_any a len cap W hl2 h)
          go_wp2_with fail
          refine (HD.out _ (HB.out.after T.out)).mono ?_; rintro e w51 ⟨⟨ga, gb, gc, gd, rfl⟩, hb⟩
          replace T := Lib.hid (bfin T.out hb)
          clear hb
          have gN := Lib.hid (Bf.new (w := w51) (p := (ga)) (q := (gb)))
          replace T := Lib.hid (T.out.alloc T.out.size (.cells #[(.int .i64 ga), (.int .i64 gb)] 34))
          have g := gN
          clear gN
          have hN := Lib.hid (Bf.newE (g := w51.heap.size + 1) (w := (w51.alloc (.cells #[(.int .i64 ga), (.int .i64 gb)] 34))) (p := (gc)) (q := (gd)) (by simp))
          replace T := Lib.hid (T.out.alloc T.out.size (.cells #[(.int .i64 gc), (.int .i64 gd)] 34))
          replace g := Lib.hid (g.out.alloc (.cells #[(.int .i64 gc), (.int .i64 gd)] 34))
          have h := hN
          clear hN
          have H1 := Lib.hid (fun W => MediantOf_any ga gb gc gd W)
          have H2 := Lib.hid (fun W => sMediantOf_any ga gb gc gd W)
          have H3 := Lib.hid (fun W => AreNeighbours_any ga gb gc gd W)
          have H4 := Lib.hid (fun W => sAreNeighbours_any ga gb gc gd W)
          generalize (mdRes ga gb gc gd).1.1 = mx at *
          generalize (mdRes ga gb gc gd).1.2 = my at *
          generalize (mdRes ga gb gc gd).2 = mk at *
          generalize (nearRes ga gb gc gd).1 = nb at *
          generalize (nearRes ga gb gc gd).2 = nk at *
          clear HD
          obtain ⟨⟨og0, og1⟩, -, lg⟩ := g.out.open_
          obtain ⟨⟨oh0, oh1⟩, -, lh⟩ := h.out.open_
          go_wp2_with fail
          refine (H1.out _).mono ?_; rintro e w52 ⟨rfl, hb⟩
          replace T := Lib.hid (bfin T.out hb)
          replace g := Lib.hid (g.out.below hb)
          replace h := Lib.hid (h.out.below hb)
          clear hb og0 og1 lg oh0 oh1 lh
          generalize w51.heap.size = b51 at *
          have mN := Lib.hid (Bf.new (w := w52) (p := (mx)) (q := (my)))
          replace T := Lib.hid (T.out.alloc T.out.size (.cells #[(.int .i64 mx), (.int .i64 my)] 34))
          replace g := Lib.hid (g.out.alloc (.cells #[(.int .i64 mx), (.int .i64 my)] 34))
          replace h := Lib.hid (h.out.alloc (.cells #[(.int .i64 mx), (.int .i64 my)] 34))
          have m := mN
          clear mN
          obtain ⟨⟨og0, og1⟩, -, lg⟩ := g.out.open_
          obtain ⟨⟨oh0, oh1⟩, -, lh⟩ := h.out.open_
          go_wp2_with fail
          refine (H2.out _).mono ?_; rintro e w53 ⟨rfl, hb⟩
          replace T := Lib.hid (bfin T.out hb)
          replace g := Lib.hid (g.out.below hb)
          replace h := Lib.hid (h.out.below hb)
          replace m := Lib.hid (m.out.below hb)
          clear hb og0 og1 lg oh0 oh1 lh
          generalize w52.heap.size = b52 at *
          have m2N := Lib.hid (Bf.new (w := w53) (p := (mx)) (q := (my)))
          replace T := Lib.hid (T.out.alloc T.out.size (.cells #[(.int .i64 mx), (.int .i64 my)] 34))
          replace g := Lib.hid (g.out.alloc (.cells #[(.int .i64 mx), (.int .i64 my)] 34))
          replace h := Lib.hid (h.out.alloc (.cells #[(.int .i64 mx), (.int .i64 my)] 34))
          replace m := Lib.hid (m.out.alloc (.cells #[(.int .i64 mx), (.int .i64 my)] 34))
          have m2 := m2N
          clear m2N
          obtain ⟨⟨og0, og1⟩, -, lg⟩ := g.out.open_
          obtain ⟨⟨oh0, oh1⟩, -, lh⟩ := h.out.open_
          go_wp2_with fail
          refine (H3.out _).mono ?_; rintro e w54 ⟨rfl, hb⟩
          replace T := Lib.hid (bfin T.out hb)
          replace g := Lib.hid (g.out.below hb)
          replace h := Lib.hid (h.out.below hb)
          replace m := Lib.hid (m.out.below hb)
          replace m2 := Lib.hid (m2.out.below hb)
          clear hb og0 og1 lg oh0 oh1 lh
          generalize w53.heap.size = b53 at *
          obtain ⟨⟨og0, og1⟩, -, lg⟩ := g.out.open_
          obtain ⟨⟨oh0, oh1⟩, -, lh⟩ := h.out.open_
          go_wp2_with fail
          refine (H4.out _).mono ?_; rintro e w55 ⟨rfl, hb⟩
          replace T := Lib.hid (bfin T.out hb)
          replace g := Lib.hid (g.out.below hb)
          replace h := Lib.hid (h.out.below hb)
          replace m := Lib.hid (m.out.below hb)
          replace m2 := Lib.hid (m2.out.below hb)
          clear hb og0 og1 lg oh0 oh1 lh
          clear H1 H2 H3 H4
          clear g h
          have HD := Lib.hid (fun W (h : Bytes W W.heap.size a len) => DrawFractionOfPath_any a len cap W hl2 h)
          go_wp2_with fail
          refine (HD.out _ (HB.out.after T.out)).mono ?_; rintro e w56 ⟨⟨wd, rfl, hwd⟩, hb⟩
          replace T := Lib.hid (bfin T.out hb)
          replace m := Lib.hid (m.out.below hb)
          replace m2 := Lib.hid (m2.out.below hb)
          clear hb
          clear HD
          have H1 := Lib.hid (fun W => FractionOfPath_any wd W (by omega))
          have H2 := Lib.hid (fun W => sFractionOfPath_any wd W (by omega))
          generalize (fpRes wd).1.1 = fx1 at *
          generalize (fpRes wd).1.2 = fy1 at *
          generalize (fpRes wd).2 = fk1 at *
          go_wp2_with fail
          refine (H1.out _).mono ?_; rintro e w57 ⟨rfl, hb⟩
          replace T := Lib.hid (bfin T.out hb)
          replace m := Lib.hid (m.out.below hb)
          replace m2 := Lib.hid (m2.out.below hb)
          clear hb
          have pN := Lib.hid (Bf.new (w := w57) (p := (fx1)) (q := (fy1)))
          replace T := Lib.hid (T.out.alloc T.out.size (.cells #[(.int .i64 fx1), (.int .i64 fy1)] 34))
          replace m := Lib.hid (m.out.alloc (.cells #[(.int .i64 fx1), (.int .i64 fy1)] 34))
          replace m2 := Lib.hid (m2.out.alloc (.cells #[(.int .i64 fx1), (.int .i64 fy1)] 34))
          have p := pN
          clear pN
          go_wp2_with fail
          refine (H2.out _).mono ?_; rintro e w58 ⟨rfl, hb⟩
          replace T := Lib.hid (bfin T.out hb)
          replace m := Lib.hid (m.out.below hb)
          replace m2 := Lib.hid (m2.out.below hb)
          replace p := Lib.hid (p.out.below hb)
          clear hb
          generalize w57.heap.size = b57 at *
          have p2N := Lib.hid (Bf.new (w := w58) (p := (fx1)) (q := (fy1)))
          replace T := Lib.hid (T.out.alloc T.out.size (.cells #[(.int .i64 fx1), (.int .i64 fy1)] 34))
          replace m := Lib.hid (m.out.alloc (.cells #[(.int .i64 fx1), (.int .i64 fy1)] 34))
          replace m2 := Lib.hid (m2.out.alloc (.cells #[(.int .i64 fx1), (.int .i64 fy1)] 34))
          replace p := Lib.hid (p.out.alloc (.cells #[(.int .i64 fx1), (.int .i64 fy1)] 34))
          have p2 := p2N
          clear p2N
          clear H1 H2
          have HD := Lib.hid (fun W (h : Bytes W W.heap.size a len) => DrawTierOf_any a len cap W hl2 h)
          go_wp2_with fail
          refine (HD.out _ (HB.out.after T.out)).mono ?_; rintro e w59 ⟨⟨tz, rfl⟩, hb⟩
          replace T := Lib.hid (bfin T.out hb)
          replace m := Lib.hid (m.out.below hb)
          replace m2 := Lib.hid (m2.out.below hb)
          replace p := Lib.hid (p.out.below hb)
          replace p2 := Lib.hid (p2.out.below hb)
          clear hb
          generalize w58.heap.size = b58 at *
          clear HD
          have H1 := Lib.hid (fun W => TierOf_any tz W)
          have H2 := Lib.hid (fun W => sTierOf_any tz W)
          have htl := ti_len tz
          generalize (tiRes tz).1 = TL at *
          generalize (tiRes tz).2 = tk at *
          go_wp2_with fail
          refine (H1.out _).mono ?_; rintro e w60 ⟨v1, rfl, ho1, hb⟩
          replace T := Lib.hid (bfin T.out hb)
          replace m := Lib.hid (m.out.below hb)
          replace m2 := Lib.hid (m2.out.below hb)
          replace p := Lib.hid (p.out.below hb)
          replace p2 := Lib.hid (p2.out.below hb)
          clear hb
          obtain ⟨A3, cap3, rfl, -, -, hat1⟩ := own_view ho1
          have R1 := Lib.hid hat1
          clear ho1 hat1
          go_wp2_with fail
          refine (H2.out _).mono ?_; rintro e w61 ⟨v2, rfl, ho2, hb⟩
          replace T := Lib.hid (bfin T.out hb)
          replace m := Lib.hid (m.out.below hb)
          replace m2 := Lib.hid (m2.out.below hb)
          replace p := Lib.hid (p.out.below hb)
          replace p2 := Lib.hid (p2.out.below hb)
          replace R1 := Lib.hid (R1.out.below hb)
          clear hb
          obtain ⟨A4, cap4, rfl, -, -, hat2⟩ := own_view ho2
          have R2 := Lib.hid hat2
          clear ho2 hat2 H1 H2
          have HD := Lib.hid (fun W (h : Bytes W W.heap.size a len) => DrawNextInRow_any a len cap W hl2 h)
          go_wp2_with fail
          refine (HD.out _ (HB.out.after T.out)).mono ?_; rintro e w62 ⟨⟨zn, zp, zq, rfl⟩, hb⟩
          replace T := Lib.hid (bfin T.out hb)
          replace m := Lib.hid (m.out.below hb)
          replace m2 := Lib.hid (m2.out.below hb)
          replace p := Lib.hid (p.out.below hb)
          replace p2 := Lib.hid (p2.out.below hb)
          replace R1 := Lib.hid (R1.out.below hb)
          replace R2 := Lib.hid (R2.out.below hb)
          clear hb
          clear HD
          have qN := Lib.hid (Bf.new (w := w62) (p := (zp)) (q := (zq)))
          replace T := Lib.hid (T.out.alloc T.out.size (.cells #[(.int .i64 zp), (.int .i64 zq)] 34))
          replace m := Lib.hid (m.out.alloc (.cells #[(.int .i64 zp), (.int .i64 zq)] 34))
          replace m2 := Lib.hid (m2.out.alloc (.cells #[(.int .i64 zp), (.int .i64 zq)] 34))
          replace p := Lib.hid (p.out.alloc (.cells #[(.int .i64 zp), (.int .i64 zq)] 34))
          replace p2 := Lib.hid (p2.out.alloc (.cells #[(.int .i64 zp), (.int .i64 zq)] 34))
          have q := qN
          clear qN
          replace R1 := Lib.hid (R1.out.below ((Below.refl _ _).alloc (Nat.le_refl _) (.cells #[(.int .i64 zp), (.int .i64 zq)] 34)))
          replace R2 := Lib.hid (R2.out.below ((Below.refl _ _).alloc (Nat.le_refl _) (.cells #[(.int .i64 zp), (.int .i64 zq)] 34)))
          obtain ⟨nx, ny, nk2, HO⟩ := nr_ok zn zp zq
          have H1 := Lib.hid HO.imp
          have H2 := Lib.hid HO.spc
          clear HO
          obtain ⟨⟨oq0, oq1⟩, -, lq⟩ := q.out.open_
          go_wp2_with fail
          refine (H1.out _).mono ?_; rintro e w63 ⟨rfl, hb⟩
          replace T := Lib.hid (bfin T.out hb)
          replace m := Lib.hid (m.out.below hb)
          replace m2 := Lib.hid (m2.out.below hb)
          replace p := Lib.hid (p.out.below hb)
          replace p2 := Lib.hid (p2.out.below hb)
          replace q := Lib.hid (q.out.below hb)
          replace R1 := Lib.hid (R1.out.below hb)
          replace R2 := Lib.hid (R2.out.below hb)
          clear hb oq0 oq1 lq
          generalize w62.heap.size = b62 at *
          have qaN := Lib.hid (Bf.new (w := w63) (p := (nx)) (q := (ny)))
          replace T := Lib.hid (T.out.alloc T.out.size (.cells #[(.int .i64 nx), (.int .i64 ny)] 34))
          replace m := Lib.hid (m.out.alloc (.cells #[(.int .i64 nx), (.int .i64 ny)] 34))
          replace m2 := Lib.hid (m2.out.alloc (.cells #[(.int .i64 nx), (.int .i64 ny)] 34))
          replace p := Lib.hid (p.out.alloc (.cells #[(.int .i64 nx), (.int .i64 ny)] 34))
          replace p2 := Lib.hid (p2.out.alloc (.cells #[(.int .i64 nx), (.int .i64 ny)] 34))
          replace q := Lib.hid (q.out.alloc (.cells #[(.int .i64 nx), (.int .i64 ny)] 34))
          have qa := qaN
          clear qaN
          replace R1 := Lib.hid (R1.out.below ((Below.refl _ _).alloc (Nat.le_refl _) (.cells #[(.int .i64 nx), (.int .i64 ny)] 34)))
          replace R2 := Lib.hid (R2.out.below ((Below.refl _ _).alloc (Nat.le_refl _) (.cells #[(.int .i64 nx), (.int .i64 ny)] 34)))
          obtain ⟨⟨oq0, oq1⟩, -, lq⟩ := q.out.open_
          go_wp2_with fail
          refine (H2.out _).mono ?_; rintro e w64 ⟨rfl, hb⟩
          replace T := Lib.hid (bfin T.out hb)
          replace m := Lib.hid (m.out.below hb)
          replace m2 := Lib.hid (m2.out.below hb)
          replace p := Lib.hid (p.out.below hb)
          replace p2 := Lib.hid (p2.out.below hb)
          replace q := Lib.hid (q.out.below hb)
          replace qa := Lib.hid (qa.out.below hb)
          replace R1 := Lib.hid (R1.out.below hb)
          replace R2 := Lib.hid (R2.out.below hb)
          clear hb oq0 oq1 lq
          generalize w63.heap.size = b63 at *
          have qbN := Lib.hid (Bf.new (w := w64) (p := (nx)) (q := (ny)))
          replace T := Lib.hid (T.out.alloc T.out.size (.cells #[(.int .i64 nx), (.int .i64 ny)] 34))
          replace m := Lib.hid (m.out.alloc (.cells #[(.int .i64 nx), (.int .i64 ny)] 34))
          replace m2 := Lib.hid (m2.out.alloc (.cells #[(.int .i64 nx), (.int .i64 ny)] 34))
          replace p := Lib.hid (p.out.alloc (.cells #[(.int .i64 nx), (.int .i64 ny)] 34))
          replace p2 := Lib.hid (p2.out.alloc (.cells #[(.int .i64 nx), (.int .i64 ny)] 34))
          replace q := Lib.hid (q.out.alloc (.cells #[(.int .i64 nx), (.int .i64 ny)] 34))
          replace qa := Lib.hid (qa.out.alloc (.cells #[(.int .i64 nx), (.int .i64 ny)] 34))
          have qb := qbN
          clear qbN
          replace R1 := Lib.hid (R1.out.below ((Below.refl _ _).alloc (Nat.le_refl _) (.cells #[(.int .i64 nx), (.int .i64 ny)] 34)))
          replace R2 := Lib.hid (R2.out.below ((Below.refl _ _).alloc (Nat.le_refl _) (.cells #[(.int .i64 nx), (.int .i64 ny)] 34)))
          clear H1 H2
          clear q
          have HD := Lib.hid (fun W (h : Bytes W W.heap.size a len) => DrawCountInRow_any a len cap W hl2 h)
          go_wp2_with fail
          refine (HD.out _ (HB.out.after T.out)).mono ?_; rintro e w65 ⟨⟨zc, rfl⟩, hb⟩
          replace T := Lib.hid (bfin T.out hb)
          replace m := Lib.hid (m.out.below hb)
          replace m2 := Lib.hid (m2.out.below hb)
          replace p := Lib.hid (p.out.below hb)
          replace p2 := Lib.hid (p2.out.below hb)
          replace qa := Lib.hid (qa.out.below hb)
          replace qb := Lib.hid (qb.out.below hb)
          replace R1 := Lib.hid (R1.out.below hb)
          replace R2 := Lib.hid (R2.out.below hb)
          clear hb
          generalize w64.heap.size = b64 at *
          clear HD
          have H1 := Lib.hid (fun W => CountInRow_any zc W)
          have H2 := Lib.hid (fun W => sCountInRow_any zc W)
          generalize (cntRes zc).1 = cz at *
          generalize (cntRes zc).2 = ck at *
          go_wp2_with fail
          refine (H1.out _).mono ?_; rintro e w66 ⟨rfl, hb⟩
          replace T := Lib.hid (bfin T.out hb)
          replace m := Lib.hid (m.out.below hb)
          replace m2 := Lib.hid (m2.out.below hb)
          replace p := Lib.hid (p.out.below hb)
          replace p2 := Lib.hid (p2.out.below hb)
          replace qa := Lib.hid (qa.out.below hb)
          replace qb := Lib.hid (qb.out.below hb)
          replace R1 := Lib.hid (R1.out.below hb)
          replace R2 := Lib.hid (R2.out.below hb)
          clear hb
          go_wp2_with fail
          refine (H2.out _).mono ?_; rintro e w67 ⟨rfl, hb⟩
          replace T := Lib.hid (bfin T.out hb)
          replace m := Lib.hid (m.out.below hb)
          replace m2 := Lib.hid (m2.out.below hb)
          replace p := Lib.hid (p.out.below hb)
          replace p2 := Lib.hid (p2.out.below hb)
          replace qa := Lib.hid (qa.out.below hb)
          replace qb := Lib.hid (qb.out.below hb)
          replace R1 := Lib.hid (R1.out.below hb)
          replace R2 := Lib.hid (R2.out.below hb)
          clear hb
          clear H1 H2
          have y1 : (mk == mk) = true := by simp
          have y2 : (mx == mx && my == my) = true := by simp
          have y3 : (nk == nk) = true := by simp
          have y4 : (nb == nb) = true := by simp
          have y5 : (fk1 == fk1) = true := by simp
          have y6 : (fx1 == fx1 && fy1 == fy1) = true := by simp
          have y7 : (tk == tk) = true := by simp
          have y8 : (nk2 == nk2) = true := by simp
          have y9 : (nx == nx && ny == ny) = true := by simp
          have y10 : (ck == ck) = true := by simp
          have y11 : (cz == cz) = true := by simp
          have hfl : (flat2 TL).length = TL.length * 2 := flat2_len TL
          have hml : TL.length ≤ maxLen := by unfold maxLen; omega
          obtain ⟨⟨om0, om1⟩, -, lm⟩ := m.out.open_
          obtain ⟨⟨om20, om21⟩, -, lm2⟩ := m2.out.open_
          obtain ⟨⟨op0, op1⟩, -, lp⟩ := p.out.open_
          obtain ⟨⟨op20, op21⟩, -, lp2⟩ := p2.out.open_
          go_wp2_with fail
          refine (fractions5_same A3 A4 TL.length cap3 cap4 _ _ (flat2 TL) _ hfl hml R1.out R2.out).mono ?_; rintro e w68 ⟨rfl, hb⟩
          replace T := Lib.hid (bfin T.out hb)
          replace m := Lib.hid (m.out.below hb)
          replace m2 := Lib.hid (m2.out.below hb)
          replace p := Lib.hid (p.out.below hb)
          replace p2 := Lib.hid (p2.out.below hb)
          replace qa := Lib.hid (qa.out.below hb)
          replace qb := Lib.hid (qb.out.below hb)
          clear hb om0 om1 lm om20 om21 lm2 op0 op1 lp op20 op21 lp2
          clear R1 R2 hml hfl
          obtain ⟨⟨oqa0, oqa1⟩, -, lqa⟩ := qa.out.open_
          obtain ⟨⟨oqb0, oqb1⟩, -, lqb⟩ := qb.out.open_
          go_wp2_with fail
          go_ret
          exact ⟨rfl, T.out⟩
end Go.Proofs.YtjnkogkpdbgohaaGreatDoor
