/- The walk of the great law of the sums. -/
import Derived.Test.YtkhlgphmimddhaaD3
import Derived.Test.YtkhlgphmimddhaaD5
import Derived.Deep.DeepCutAuto
import Derived.Test.YtkhlgphmimddhaaC41
import Derived.Test.YtkhlgphmimddhaaC42
namespace Go.Proofs.Ytkhlgphmimddhaa
open Go.RowKit
/-- Block b holds a fraction. -/
def Bx2 (w : World) (b : Nat) (x y : Int) : Prop := (w.cell? ⟨b, 0, none⟩ = some (.int .i64 x) ∧ w.cell? ⟨b, 1, none⟩ = some (.int .i64 y)) ∧ b < w.heap.size
theorem Bx2.keep {w w' : World} {b : Nat} {x y : Int} (h : Bx2 w b x y) (hb : Below w.heap.size w w') : Bx2 w' b x y :=
  ⟨⟨(hb.cell (p := ⟨b, 0, none⟩) h.2).trans h.1.1, (hb.cell (p := ⟨b, 1, none⟩) h.2).trans h.1.2⟩, Nat.lt_of_lt_of_le h.2 hb.size⟩
theorem Bx2.keepA {w w' : World} {b : Nat} {x y : Int} {o : Obj} (h : Bx2 w b x y) (hb : Below (w.alloc o).heap.size (w.alloc o) w') : Bx2 w' b x y :=
  (h.keep ((Below.refl _ w).alloc (Nat.le_refl _) o)).keep hb
theorem Bx2.new {w w' : World} {x y : Int} {t : TypeId} (hb : Below (w.alloc (.cells #[(.int .i64 x), (.int .i64 y)] t)).heap.size (w.alloc (.cells #[(.int .i64 x), (.int .i64 y)] t)) w') : Bx2 w' w.heap.size x y := by
  obtain ⟨⟨h1, h2⟩, -, h3⟩ := blk_two (heap_below heap_new hb)
  exact ⟨⟨h1, h2⟩, h3⟩
theorem Bytes.up {w w' : World} {n len : Nat} {a : Option Addr} (h : Bytes w n a len) (hb : Below n w w') (_ : n ≤ w'.heap.size) : Bytes w' w'.heap.size a len := fun hl => by
  obtain ⟨b, o, ha, h1, h2, h3⟩ := h.below hb hl
  exact ⟨b, o, ha, h2, h2, h3⟩
theorem below_alloc {n : Nat} {w0 w w' : World} {o : Obj} (h : Below n w0 w) (hn : n ≤ w0.heap.size) (hb : Below (w.alloc o).heap.size (w.alloc o) w') : Below n w0 w' := by
  have h1 := h.alloc (Nat.le_trans hn h.size) o
  exact h1.trans (hb.mono (Nat.le_trans hn h1.size))
theorem below_alloc2 {n : Nat} {w0 w w' : World} {o : Obj} (h : Below n w0 w) (hn : n ≤ w0.heap.size) (hb : Below (w.alloc o).heap.size (w.alloc o) w') (o' : Obj) : Below n w0 (w'.alloc o') := by
  have h1 := below_alloc h hn hb
  exact h1.alloc (Nat.le_trans hn h1.size) o'
theorem below_step {n : Nat} {w0 w w' : World} (h : Below n w0 w) (hn : n ≤ w0.heap.size) (hb : Below w.heap.size w w') : Below n w0 w' :=
  h.trans (hb.mono (Nat.le_trans hn h.size))
attribute [local go_sem] eqFrac
set_option maxRecDepth 1000000 in
set_option maxHeartbeats 4000000 in
theorem lawFnDedekind (a : Option Addr) (len cap : Nat) (w : World) (hl : len ≤ maxLen) (hb : Bytes w w.heap.size a len) :
    Calls Try.prog 12 #[.slice a len cap] w fun e w' => e = .returned (.bool true) ∧ Below w.heap.size w w' := by
  have HB := Lib.hid hb
  have HG := Lib.hid (big_any a len cap w hl)
  unfold maxLen at hl
  clear hb
  by_cases hbig : 4096 < len
  · rw [show decide (4096 < len) = true by simpa using hbig] at HG
    go_enter Try.func12, Try.ntmps12
    go_wp2_with fail
    refine HG.out.mono ?_; rintro e w' ⟨rfl, rfl⟩
    go_wp2_with fail
    go_ret
    exact ⟨rfl, Below.refl _ _⟩
  · rw [show decide (4096 < len) = false by simpa using hbig] at HG
    have HD1 := Lib.hid (DrawDedekindSum_any a len cap w (by omega) HB.out)
    go_enter Try.func12, Try.ntmps12
    go_wp2_with fail
    refine HG.out.mono ?_; rintro e w' ⟨rfl, rfl⟩
    go_wp2_with fail
    refine HD1.out.mono ?_; rintro e w1 ⟨⟨h, k, rfl, hp⟩, hb1⟩
    have T1 := Lib.hid hb1
    clear HD1 HG hb1
    obtain ⟨p0, p1, p2, p3⟩ := hp
    have HI := Lib.hid (DedekindSum_any h k)
    have HS := Lib.hid (sDedekindSum_any h k)
    have HK := Lib.hid (ded_k (h := h) (k := k))
    have HXB := Lib.hid (ded_bd (h := h) (k := k))
    have HI1 := Lib.hid (ded_call_rest (h := h) (k := k))
    have HI2 := Lib.hid (ded_call_neg (h := h) (k := k))
    generalize (dedRes h k).1.1 = X at *
    generalize (dedRes h k).1.2 = Y at *
    generalize (dedRes h k).2 = E at *
    go_wp2_with fail
    refine (HI.out _).mono ?_; rintro e w2 ⟨rfl, hb2⟩
    have T2 := Lib.hid (below_step T1.out (Nat.le_refl _) hb2)
    clear T1 hb2
    go_wp2_with fail
    refine (HS.out _).mono ?_; rintro e w3 ⟨rfl, hb3⟩
    have T3 := Lib.hid (below_alloc T2.out (Nat.le_refl _) hb3)
    have B5 := Lib.hid (Bx2.new hb3)
    clear T2 hb3 HI HS
    have hE : (E != E) = false := by simp
    have hX : (X == X) = true := by simp
    have hY : (Y == Y) = true := by simp
    obtain ⟨⟨c50, c51⟩, z5⟩ := B5.out
    go_upto_if 80 with (fail)
    go_cut [9, 10, 11, 12, 80] from 81 to 125 (fun _ _ _ _ _ wx => Hid (Below w.heap.size w wx))
    case first =>
      have T4 := Lib.hid (T3.out.alloc T3.out.size (.cells #[(.int .i64 X), (.int .i64 Y)] 23))
      by_cases h0 : E = 0
      · have hE0 : (E == 0) = true := by simpa using h0
        obtain ⟨k1, k2, h1, h2⟩ := HK.out h0
        obtain ⟨⟨m0, m1⟩, hm⟩ := go_rest (h := h) (k := k) (by omega)
        obtain ⟨x1, x2⟩ := HXB.out h0
        have HJ1 := Lib.hid (HI1.out h0)
        have HJ2 := Lib.hid (HI2.out h0)
        clear HI1 HI2 h0
        go_wp2_with fail
        refine (HJ1.out _).mono ?_; rintro e w4 ⟨rfl, hb4⟩
        have T5 := Lib.hid (bfin T4.out hb4)
        have B5' := Lib.hid (B5.out.keepA hb4)
        clear hb4 T4 B5 HJ1 c50 c51 z5
        go_wp2_with fail
        refine (HJ2.out _).mono ?_; rintro e w5 ⟨rfl, hb5⟩
        have T6 := Lib.hid (below_alloc2 T5.out (Nat.le_refl _) hb5 (.cells #[(.int .i64 (-X)), (.int .i64 Y)] 23))
        have B5 := Lib.hid (B5'.out.keepA hb5)
        have B9 := Lib.hid (Bx2.new hb5)
        clear hb5 T5 B5' HJ2
        obtain ⟨⟨c50, c51⟩, z5⟩ := B5.out
        obtain ⟨⟨c90, c91⟩, z9⟩ := B9.out
        have hXN : (-X != -X) = false := by simp
        have hYN : (Y != Y) = false := by simp
        go_wp2_with fail
        go_meet
        exact T6
      · have hE0 : (E == 0) = false := by simpa using h0
        clear h0
        go_wp2_with fail
        go_meet
        exact T4
    case rest =>
      have T1 := hcut
      clear T3 B5 HI1 HI2 HK HXB c50 c51 z5 hcut
      have HD2 := Lib.hid (DrawReciprocityOf_any a len cap wc (by omega) (HB.out.up T1.out T1.out.size))
      clear p0 p1 p2 p3 hE hX hY
      go_wp2_with fail
      refine HD2.out.mono ?_; rintro e w11 ⟨⟨p, q, rfl, hp⟩, hb1⟩
      have T2 := Lib.hid (bfin T1.out hb1)
      clear HD2 hb1 T1
      obtain ⟨p0, p1, p2, p3⟩ := hp
      have HI := Lib.hid (ReciprocityOf_any p q)
      have HS := Lib.hid (sReciprocityOf_any p q)
      have HU := Lib.hid (rec_use (p := p) (q := q))
      generalize (recRes p q).1.1 = U at *
      generalize (recRes p q).1.2 = V at *
      generalize (recRes p q).2 = F at *
      go_wp2_with fail
      refine (HI.out _).mono ?_; rintro e w12 ⟨rfl, hb2⟩
      have T3 := Lib.hid (bfin T2.out hb2)
      clear T2 hb2
      go_wp2_with fail
      refine (HS.out _).mono ?_; rintro e w13 ⟨rfl, hb3⟩
      have T4 := Lib.hid (below_alloc T3.out (Nat.le_refl _) hb3)
      have B15 := Lib.hid (Bx2.new hb3)
      clear T3 hb3 HI HS
      have hF : (F != F) = false := by simp
      have hU : (U == U) = true := by simp
      have hV : (V == V) = true := by simp
      obtain ⟨⟨c50, c51⟩, z5⟩ := B15.out
      go_upto_region 18 with (fail)
      go_cut [160] from 151 to 160 (fun s wx => ∃ B : Bool, s = .bool B ∧ Hid (B = true → F = 0 ∧ p ≤ 300 ∧ q ≤ 300) ∧ wx = w13.alloc (.cells #[(.int .i64 U), (.int .i64 V)] 23))
      case first =>
        by_cases h0 : F = 0
        · have h0' : (F == 0) = true := by simpa using h0
          by_cases h1 : p ≤ 300
          · by_cases h2 : q ≤ 300
            all_goals
              have HH := Lib.hid (And.intro h0 (And.intro h1 h2))
              clear h0
              go_wp2_with fail
              go_meet
              first | exact ⟨true, rfl, Lib.hid fun _ => HH.out, rfl⟩ | exact ⟨false, rfl, Lib.hid (fun h => by cases h), rfl⟩
          · clear h0
            go_wp2_with fail
            go_meet
            exact ⟨false, rfl, Lib.hid (fun h => by cases h), rfl⟩
        · have h0' : (F == 0) = false := by simpa using h0
          clear h0
          go_wp2_with fail
          go_meet
          exact ⟨false, rfl, Lib.hid (fun h => by cases h), rfl⟩
      case rest =>
        obtain ⟨B, rfl, HBB, rfl⟩ := hcut
        clear hF c50 c51 z5
        have T5 := Lib.hid (T4.out.alloc T4.out.size (.cells #[(.int .i64 U), (.int .i64 V)] 23))
        clear T4 p0 p1 p2 p3
        go_upto_if 160 with (fail)
        go_cut [19, 20, 21, 22, 23, 24, 160] from 161 to 207 (fun _ _ _ _ _ _ _ wx => Hid (Below w.heap.size w wx))
        case first =>
          cases B
          · go_wp2_with fail
            go_meet
            exact T5
          · obtain ⟨f0, f1, f2⟩ := HBB.out rfl
            obtain ⟨X, Y, X', Y', H⟩ := HU.out f0 f1 f2
            clear HBB HU f0 f1 f2
            have HO := Lib.hid H.one
            have HT := Lib.hid H.two
            have HM := Lib.hid H.sum
            obtain ⟨-, -, -, m0, m1, n0, n1, r0, r1⟩ := H
            generalize hXY : X * Y' = XY at *
            generalize hYX : X' * Y = YX at *
            generalize hYY : Y * Y' = YY at *
            have e1 := Lib.hid hXY
            have e2 := Lib.hid hYX
            have e3 := Lib.hid hYY
            clear hXY hYX hYY
            go_wp2_with fail
            refine (HO.out _).mono ?_; rintro e w14 ⟨rfl, hb4⟩
            have T6 := Lib.hid (bfin T5.out hb4)
            have B15' := Lib.hid (B15.out.keepA hb4)
            clear hb4 T5 B15 HO
            go_wp2_with fail
            refine (HT.out _).mono ?_; rintro e w15 ⟨rfl, hb5⟩
            have T7 := Lib.hid (below_alloc T6.out (Nat.le_refl _) hb5)
            have B15 := Lib.hid (B15'.out.keepA hb5)
            have B19 := Lib.hid (Bx2.new hb5)
            clear hb5 T6 B15' HT
            obtain ⟨⟨c0, c1⟩, z19⟩ := B19.out
            have ea := e1.out
            have eb := e2.out
            have ec := e3.out
            go_wp2_with fail
            clear c0 c1 z19 ea eb ec
            rcases HM.out with HC | ⟨C, hC0, HC⟩
            · have HCH := Lib.hid HC
              clear HC HM e1 e2 e3
              refine (HCH.out _).mono ?_; rintro e w16 ⟨rfl, hb6⟩
              have T8 := Lib.hid (below_alloc2 T7.out (Nat.le_refl _) hb6 (.cells #[(.int .i64 U), (.int .i64 V)] 23))
              have B15' := Lib.hid (B15.out.keepA hb6)
              clear hb6 T7 B15 HCH B19
              obtain ⟨⟨c50, c51⟩, z15⟩ := B15'.out
              go_wp2_with fail
              go_meet
              exact T8
            · have HCH := Lib.hid HC
              have hC : (C == 0) = false := by simpa using hC0
              clear HC HM e1 e2 e3 hC0
              refine (HCH.out _).mono ?_; rintro e w16 ⟨rfl, hb6⟩
              have T8 := Lib.hid (below_alloc2 T7.out (Nat.le_refl _) hb6 (.cells #[(.int .i64 0), (.int .i64 0)] 23))
              clear hb6 T7 B15 HCH B19
              go_wp2_with fail
              go_meet
              exact T8
        case rest =>
          have T1 := hcut
          clear T5 B15 HU HBB hcut
          have HD3 := Lib.hid (DrawEqualTo_any a len cap wc (by omega) (HB.out.up T1.out T1.out.size))
          clear hU hV
          go_wp2_with fail
          refine HD3.out.mono ?_; rintro e w21 ⟨⟨c, d, rfl, hp⟩, hb1⟩
          have T2 := Lib.hid (bfin T1.out hb1)
          clear HD3 hb1 T1
          obtain ⟨p0, p1, p2, p3⟩ := hp
          have HI := Lib.hid (EqualTo_any c d)
          have HS := Lib.hid (sEqualTo_any c d)
          have HN := Lib.hid (equalRes_len c d)
          have HNN := Lib.hid (equalRes_n c d)
          have HU := Lib.hid (equal_use (c := c) (d := d))
          generalize (equalRes c d).xs = xs at *
          generalize (equalRes c d).n = n at *
          generalize (equalRes c d).c = G at *
          go_wp2_with fail
          refine (HI.out _).mono ?_; rintro e w22 ⟨v1, rfl, ho1, hb2⟩
          have T3 := Lib.hid (bfin T2.out hb2)
          obtain ⟨A1, cap1, rfl, -, -, hat1⟩ := own_view ho1
          have R1 := Lib.hid hat1
          clear T2 hb2 ho1 hat1
          go_wp2_with fail
          refine (HS.out _).mono ?_; rintro e w23 ⟨v2, rfl, ho2, hb3⟩
          have T4 := Lib.hid (bfin T3.out hb3)
          obtain ⟨A2, cap2, rfl, -, -, hat2⟩ := own_view ho2
          have R2 := Lib.hid hat2
          have R1' := Lib.hid (R1.out.below hb3)
          clear T3 hb3 ho2 hat2 R1 HI HS
          have hG : (G != G) = false := by simp
          have hnm := HNN.out
          go_wp2_with fail
          refine (likeInts_same A1 A2 n cap1 cap2 _ _ xs w23 HN.out (by unfold maxLen; omega) R1'.out R2.out).mono ?_; rintro e w24 ⟨rfl, hb4⟩
          have T5 := Lib.hid (bfin T4.out hb4)
          have R1 := Lib.hid (R1'.out.below hb4)
          clear T4 hb4 R1' R2
          go_upto_if 235 with (fail)
          go_cut [31, 32, 33, 34, 35, 36, 235] from 236 to 292 (fun _ _ _ _ _ _ _ wx => Hid (Below w.heap.size w wx))
          case first =>
            by_cases h0 : G = 0
            · have h0' : (G == 0) = true := by simpa using h0
              obtain ⟨d0, d1, c0, c1, ⟨X, Y, HY, HX⟩, HA⟩ := HU.out h0
              have HYH := Lib.hid HY
              have HXH := Lib.hid HX
              have HAH := Lib.hid HA
              clear HY HX HA h0 HU p0 p1 p2 p3
              rw [h0']
              go_wp2_with fail
              go_loopw [31] (fun i wr => ∃ j : Nat, i = (.int .i64 ((j : Int))) ∧ j ≤ n ∧ Hid (Below w.heap.size w wr) ∧ Hid (RowAt wr w21.heap.size A1 n (ints xs))) (fun i _ => n - (intOf i).toNat)
              case atStart => exact ⟨0, rfl, Nat.zero_le _, T5, R1⟩
              case round =>
                clear T5 R1
                obtain ⟨j, rfl, hj, T5, R1⟩ := hrel
                by_cases hlt : j < n
                · have hlt2 : (j : Int) < (n : Int) := by omega
                  obtain ⟨b, rfl, -, -, hc, -⟩ := R1.out (by omega)
                  have hcj := hc j _ (ints_at (by rw [HN.out]; exact hlt))
                  have HXJ := Lib.hid (HXH.out (xs.getD j 0) (getD_in (by rw [HN.out]; exact hlt)))
                  clear hc
                  generalize xs.getD j 0 = x at *
                  go_wp2_with fail
                  refine (HXJ.out _).mono ?_; rintro e w31 ⟨rfl, hb6⟩
                  have T6 := Lib.hid (bfin T5.out hb6)
                  have R2 := Lib.hid (R1.out.below hb6)
                  clear hcj T5 R1 HXJ hb6
                  go_wp2_with fail
                  refine (HYH.out _).mono ?_; rintro e w32 ⟨rfl, hb7⟩
                  have T7 := Lib.hid (below_alloc2 T6.out (Nat.le_refl _) hb7 (.cells #[(.int .i64 X), (.int .i64 Y)] 23))
                  have B32 := Lib.hid (Bx2.new hb7)
                  have R3 := Lib.hid ((((R2.out.below ((Below.refl _ _).alloc (Nat.le_refl _) _)).below hb7).below ((Below.refl _ _).alloc (Nat.le_refl _) (.cells #[(.int .i64 X), (.int .i64 Y)] 23))))
                  clear T6 R2 hb7
                  obtain ⟨⟨q0, q1⟩, z32⟩ := B32.out
                  have hXX : (X == X) = true := by simp
                  have hYY : (Y == Y) = true := by simp
                  go_wp2_with fail
                  go_roundw
                  case rel =>
                    exact ⟨j + 1, by go_num, by omega, T7, R3⟩
                  case measure => simp [intOf]; omega
                · have hlt2 : ¬ (j : Int) < (n : Int) := by omega
                  obtain rfl : n = j := by omega
                  clear HXH HYH
                  go_wp2_with fail
                  go_loopw [36] (fun i wr => ∃ m : Nat, i = (.int .i64 ((m : Int) + 1)) ∧ (m : Int) ≤ d ∧ Hid (Below w.heap.size w wr) ∧ Hid (RowAt wr w21.heap.size A1 n (ints xs))) (fun i _ => d.toNat + 1 - (intOf i).toNat)
                  case atStart => exact ⟨0, by go_num, by omega, T5, R1⟩
                  case round =>
                    clear T5 R1
                    obtain ⟨m, rfl, hm, T5, R1⟩ := hrel
                    by_cases hlt : (m : Int) + 1 ≤ d
                    · obtain ⟨r, hr⟩ : ∃ r, c.tmod d = r := ⟨_, rfl⟩
                      have hr1 := (go_rest (h := c) (k := d) (by omega)).1
                      have hin := go_inv (i := (m : Int) + 1) (c := c) (d := d) (by omega)
                      have hall := HAH.out ((m : Int) + 1) (by omega) (by omega)
                      rw [← hin.1, Int.add_emod_right] at hall
                      have hq := hin.2
                      rw [hr] at hr1 hq hall
                      have hpm := mul_bd (a := (m : Int) + 1) (b := r) (A := 100) (B := 100) (by omega) (by omega) (by omega) (by omega)
                      obtain ⟨P, hP⟩ : ∃ P, ((m : Int) + 1) * r = P := ⟨_, rfl⟩
                      rw [hP] at hpm hq hall
                      obtain ⟨Q, hQ⟩ : ∃ Q, P.tmod d = Q := ⟨_, rfl⟩
                      rw [hQ] at hq hall
                      obtain ⟨q0, q1⟩ := hq
                      obtain ⟨m0, m1⟩ := hpm
                      obtain ⟨r0, r1⟩ := hr1
                      clear hin
                      have HALL := Lib.hid hall
                      clear hall
                      by_cases he : Q % d = 1 % d
                      · have hmem := HALL.out he
                        have he' : (Q % d == 1 % d) = true := by simpa using he
                        have HH := Lib.hid (hasInt_ext A1 n cap1 _ xs ((m : Int) + 1) wr HN.out (by unfold maxLen; omega) hmem R1.out)
                        clear he hmem HALL
                        go_wp2_with fail
                        refine wp_region_ext (by kernel_rfl) (by kernel_rfl) ?_
                        repeat (go_big_quiet_step (first | ((go_at_call 47; refine Calls.ext_of (Nat.le_refl _) (HH.out _)))))
                        refine wpQuiet_nil ?_
                        intro w1 hb1
                        obtain ⟨hc1, hf1⟩ := bcell hb1
                        have T6 := Lib.hid (bfin T5.out hb1)
                        have R2 := Lib.hid (R1.out.below hb1)
                        clear hb1 hc1 hf1 T5 R1
                        go_wp2_with fail
                        go_roundw
                        case rel => exact ⟨m + 1, by go_num, by omega, T6, R2⟩
                        case measure => simp [intOf]; omega
                      · have he' : (Q % d == 1 % d) = false := by simpa using he
                        clear he HALL
                        go_wp2_with fail
                        refine wp_region_ext (by kernel_rfl) (by kernel_rfl) ?_
                        repeat (go_big_quiet_step (fail))
                        refine wpQuiet_nil ?_
                        intro w1 hb1
                        obtain ⟨hc1, hf1⟩ := bcell hb1
                        have T6 := Lib.hid (bfin T5.out hb1)
                        have R2 := Lib.hid (R1.out.below hb1)
                        clear hb1 hc1 hf1 T5 R1
                        go_wp2_with fail
                        go_roundw
                        case rel => exact ⟨m + 1, by go_num, by omega, T6, R2⟩
                        case measure => simp [intOf]; omega
                    · have hlt2 : ¬ ((m : Int) + 1 ≤ d) := hlt
                      go_wp2_with fail
                      go_meet
                      exact T5
            · have h0' : (G == 0) = false := by simpa using h0
              clear h0
              go_wp2_with fail
              go_meet
              exact T5
          case rest =>
            have T1 := hcut
            clear T5 R1 HU hcut HNN HN hnm p0 p1 p2 p3
            have HD4 := Lib.hid (DrawSumsOf_any a len cap wc (by omega) (HB.out.up T1.out T1.out.size))
            go_wp2_with fail
            refine HD4.out.mono ?_; rintro e w41 ⟨⟨s, rfl⟩, hb1⟩
            have T2 := Lib.hid (bfin T1.out hb1)
            clear HD4 hb1 T1
            have HI := Lib.hid (SumsOf_any s)
            have HS := Lib.hid (sSumsOf_any s)
            have HN := Lib.hid (sumsRes_len s)
            generalize (sumsRes s).xs = ys at *
            generalize (sumsRes s).n = ny at *
            generalize (sumsRes s).c = K at *
            go_wp2_with fail
            refine (HI.out _).mono ?_; rintro e w42 ⟨v1, rfl, ho1, hb2⟩
            have T3 := Lib.hid (bfin T2.out hb2)
            have HM := Lib.hid (own_len ho1)
            obtain ⟨A3, cap3, rfl, -, -, hat1⟩ := own_view ho1
            have R1 := Lib.hid hat1
            clear T2 hb2 ho1 hat1
            go_wp2_with fail
            refine (HS.out _).mono ?_; rintro e w43 ⟨v2, rfl, ho2, hb3⟩
            have T4 := Lib.hid (bfin T3.out hb3)
            obtain ⟨A4, cap4, rfl, -, -, hat2⟩ := own_view ho2
            have R2 := Lib.hid hat2
            have R1' := Lib.hid (R1.out.below hb3)
            clear T3 hb3 ho2 hat2 R1 HI HS
            have HD5 := Lib.hid (DrawTotalOf_any a len cap w43 (by omega) (HB.out.up T4.out T4.out.size))
            go_wp2_with fail
            refine HD5.out.mono ?_; rintro e w44 ⟨⟨t, rfl⟩, hb4⟩
            have T5 := Lib.hid (bfin T4.out hb4)
            have R1 := Lib.hid (R1'.out.below hb4)
            have R2' := Lib.hid (R2.out.below hb4)
            clear HD5 T4 hb4 R1' R2
            have HI := Lib.hid (TotalOf_any t)
            have HS := Lib.hid (sTotalOf_any t)
            generalize (totRes t).1.1 = U at *
            generalize (totRes t).1.2 = V at *
            generalize (totRes t).2 = L at *
            go_wp2_with fail
            refine (HI.out _).mono ?_; rintro e w45 ⟨rfl, hb5⟩
            have T6 := Lib.hid (bfin T5.out hb5)
            have R1' := Lib.hid (R1.out.below hb5)
            have R2 := Lib.hid (R2'.out.below hb5)
            clear T5 hb5 R1 R2'
            go_wp2_with fail
            refine (HS.out _).mono ?_; rintro e w46 ⟨rfl, hb6⟩
            have hA6 := (Below.refl w45.heap.size w45).alloc (Nat.le_refl _) (.cells #[(.int .i64 U), (.int .i64 V)] 23)
            have T7 := Lib.hid (below_alloc T6.out (Nat.le_refl _) hb6)
            have T7' := Lib.hid (below_alloc2 T6.out (Nat.le_refl _) hb6 (.cells #[(.int .i64 U), (.int .i64 V)] 23))
            have R1 := Lib.hid ((R1'.out.below hA6).below hb6)
            have R2' := Lib.hid ((R2.out.below hA6).below hb6)
            have B43 := Lib.hid (Bx2.new hb6)
            clear T6 hb6 hA6 R1' R2 HI HS
            have HD6 := Lib.hid (DrawSawTooth_any a len cap (w46.alloc (.cells #[(.int .i64 U), (.int .i64 V)] 23)) (by omega) (HB.out.up T7'.out T7'.out.size))
            clear T7'
            go_wp2_with fail
            refine HD6.out.mono ?_; rintro e w47 ⟨⟨x, y, rfl, -⟩, hb7⟩
            have hA7 := (Below.refl w46.heap.size w46).alloc (Nat.le_refl _) (.cells #[(.int .i64 U), (.int .i64 V)] 23)
            have T8 := Lib.hid (below_alloc T7.out (Nat.le_refl _) hb7)
            have R1' := Lib.hid ((R1.out.below hA7).below hb7)
            have R2 := Lib.hid ((R2'.out.below hA7).below hb7)
            have B43' := Lib.hid (B43.out.keepA hb7)
            have B45 := Lib.hid (Bx2.new hb7)
            clear T7 hb7 hA7 R1 R2' HD6 B43
            have HI := Lib.hid (SawTooth_any x y)
            have HS := Lib.hid (sSawTooth_any x y)
            generalize (sawRes x y).1.1 = M at *
            generalize (sawRes x y).1.2 = O at *
            generalize (sawRes x y).2 = I at *
            go_wp2_with fail
            refine (HI.out _).mono ?_; rintro e w48 ⟨rfl, hb8⟩
            have hA8 := (Below.refl w47.heap.size w47).alloc (Nat.le_refl _) (.cells #[(.int .i64 x), (.int .i64 y)] 23)
            have T9 := Lib.hid (below_alloc T8.out (Nat.le_refl _) hb8)
            have R1 := Lib.hid ((R1'.out.below hA8).below hb8)
            have R2' := Lib.hid ((R2.out.below hA8).below hb8)
            have B43 := Lib.hid (B43'.out.keepA hb8)
            have B45' := Lib.hid (B45.out.keepA hb8)
            have B47 := Lib.hid (Bx2.new hb8)
            clear T8 hb8 hA8 R1' R2 B43' B45 HI
            obtain ⟨⟨q0, q1⟩, z47⟩ := B47.out
            go_wp2_with fail
            refine (HS.out _).mono ?_; rintro e w49 ⟨rfl, hb9⟩
            have hA9 := (Below.refl w48.heap.size w48).alloc (Nat.le_refl _) (.cells #[(.int .i64 M), (.int .i64 O)] 23)
            have T10 := Lib.hid (below_alloc T9.out (Nat.le_refl _) hb9)
            have R1' := Lib.hid ((R1.out.below hA9).below hb9)
            have R2 := Lib.hid ((R2'.out.below hA9).below hb9)
            have B43' := Lib.hid (B43.out.keepA hb9)
            have B45 := Lib.hid (B45'.out.keepA hb9)
            have B48 := Lib.hid (Bx2.new hb9)
            clear T9 hb9 hA9 R1 R2' B43 B45' B47 HS q0 q1 z47
            have hA10 := (Below.refl w49.heap.size w49).alloc (Nat.le_refl _) (.cells #[(.int .i64 M), (.int .i64 O)] 23)
            have R1 := Lib.hid (R1'.out.below hA10)
            have R2' := Lib.hid (R2.out.below hA10)
            clear hA10 R1' R2
            have hK : (K == K) = true := by simp
            go_wp2_with fail
            refine (fractions5_same A3 A4 ny cap3 cap4 _ _ ys _ HN.out HM.out R1.out R2'.out).mono ?_; rintro e w50 ⟨rfl, hb10⟩
            have T11 := Lib.hid (below_alloc T10.out (Nat.le_refl _) hb10)
            obtain ⟨⟨c430, c431⟩, z43⟩ := B43'.out.keepA hb10
            obtain ⟨⟨c450, c451⟩, z45⟩ := B45.out.keepA hb10
            obtain ⟨⟨c480, c481⟩, z48⟩ := B48.out.keepA hb10
            obtain ⟨⟨c500, c501⟩, z50⟩ := Bx2.new hb10
            have hL : (L == L) = true := by simp
            have hU2 : (U == U) = true := by simp
            have hV2 : (V == V) = true := by simp
            have hM2 : (M == M) = true := by simp
            have hO2 : (O == O) = true := by simp
            have hI2 : (I == I) = true := by simp
            clear T10 hb10 R1 R2' B43' B45 B48
            go_wp2_with fail
            go_ret
            exact ⟨rfl, T11.out⟩
end Go.Proofs.Ytkhlgphmimddhaa
