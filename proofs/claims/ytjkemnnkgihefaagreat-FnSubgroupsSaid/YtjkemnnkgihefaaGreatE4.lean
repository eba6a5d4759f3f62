/- The walk of the great law of the subgroups. -/
import Derived.Test.YtjkemnnkgihefaaGreatE1
import Derived.Test.YtjkemnnkgihefaaGreatE2
import Derived.Test.YtjkemnnkgihefaaGreatE3
import Derived.Deep.DeepCutAuto
namespace Go.Proofs.YtjkemnnkgihefaaGreat
open Go.RowKit
theorem belB {n : Nat} {w0 w w' : World} {o : Obj} (h : Below n w0 w) (hn : n ≤ w0.heap.size) (hb : Below (w.alloc o).heap.size (w.alloc o) w') : Below n w0 w' := by
  have h1 := h.alloc (Nat.le_trans hn h.size) o
  exact h1.trans (hb.mono (Nat.le_trans hn h1.size))
theorem Bm.keepB {r : Nat} {w w' : World} {o : Obj} {p q s u : Int} (h : Bm w r p q s u) (hb : Below (w.alloc o).heap.size (w.alloc o) w') : Bm w' r p q s u := (h.alloc o).below hb
theorem Bm.newB {w w' : World} {p q s u : Int} (hb : Below (w.alloc (.cells #[(.int .i64 p), (.int .i64 q), (.int .i64 s), (.int .i64 u)] 25)).heap.size (w.alloc (.cells #[(.int .i64 p), (.int .i64 q), (.int .i64 s), (.int .i64 u)] 25)) w') : Bm w' w.heap.size p q s u := Bm.new.below hb
attribute [local go_sem] eqMat
set_option maxRecDepth 1000000 in
set_option maxHeartbeats 16000000 in
theorem lawFnSubgroups (a : Option Addr) (len cap : Nat) (w : World) (hl : len ≤ maxLen) (hb : Bytes w w.heap.size a len) :
    Calls Tryz.prog 3 #[.slice a len cap] w fun e w' => e = .returned (.bool true) ∧ Below w.heap.size w w' := by
  have HB := Lib.hid hb
  have HG := Lib.hid (big_any a len cap w hl)
  unfold maxLen at hl
  clear hb
  by_cases hbig : 4096 < len
  · rw [show decide (4096 < len) = true by simpa using hbig] at HG
    go_enter Tryz.func3, Tryz.ntmps3
    go_wp2_with fail
    refine HG.out.mono ?_; rintro e w' ⟨rfl, rfl⟩
    go_wp2_with fail
    go_ret
    exact ⟨rfl, Below.refl _ _⟩
  · rw [show decide (4096 < len) = false by simpa using hbig] at HG
    have hl2 : len ≤ 1152921504606846976 := by omega
    have HD := Lib.hid (DrawIsMember_any a len cap w hl2 HB.out)
    go_enter Tryz.func3, Tryz.ntmps3
    go_wp2_with fail
    refine HG.out.mono ?_; rintro e w' ⟨rfl, rfl⟩
    go_wp2_with fail
    refine HD.out.mono ?_; rintro e w1 ⟨⟨fam, n, A, B, C, D, rfl⟩, hb1⟩
    have T1 := Lib.hid (hb1.alloc hb1.size (.cells #[(.int .i64 A), (.int .i64 B), (.int .i64 C), (.int .i64 D)] 25))
    have M1 := Lib.hid (Bm.new (w := w1) (p := A) (q := B) (s := C) (u := D))
    clear HD HG hb1
    have HI := Lib.hid (IsMember_any fam n A B C D)
    have HS := Lib.hid (sIsMember_any fam n A B C D)
    have HMO := Lib.hid (mem_open (fam := fam) (n := n) (a := A) (b := B) (c := C) (d := D))
    have HMN := Lib.hid (mem_no (fam := fam) (n := n) (a := A) (b := B) (c := C) (d := D))
    have HMI := Lib.hid (memRes_inv (fam := fam) (n := n) (a := A) (b := B) (c := C) (d := D))
    generalize memRes fam n A B C D = R1 at *
    obtain ⟨mb, me⟩ := R1
    simp only at HI HS HMO HMN
    go_wp2_with fail
    refine (HI.out _).mono ?_; rintro e w2 ⟨rfl, hb2⟩
    have T2 := Lib.hid (bfin T1.out hb2)
    have M2 := Lib.hid (M1.out.below hb2)
    clear hb2 T1 M1 HI
    generalize w1.heap.size = g5 at *
    obtain ⟨⟨c0, c1, c2, c3⟩, -, hl1⟩ := M2.out.open_
    go_wp2_with fail
    refine (HS.out _).mono ?_; rintro e w3 ⟨rfl, hb3⟩
    have T3 := Lib.hid (bfin T2.out hb3)
    have M3 := Lib.hid (M2.out.below hb3)
    clear hb3 T2 M2 HS c0 c1 c2 c3 hl1
    have hx1 : (me != me) = false := by simp
    have hx2 : (mb != mb) = false := by simp
    have HD := Lib.hid (DrawCosetMatrix_any a len cap w3 hl2 (HB.out.after T3.out))
    go_wp2_with fail
    refine HD.out.mono ?_; rintro e w4 ⟨⟨lv, i, rfl, hi⟩, hb4⟩
    have HIi := Lib.hid hi
    have T4 := Lib.hid (bfin T3.out hb4)
    have M4 := Lib.hid (M3.out.below hb4)
    clear hb4 T3 M3 HD hi
    have HI := Lib.hid (fun W => CosetMatrix_any lv i W HIi.out)
    have HS := Lib.hid (fun W => sCosetMatrix_any lv i W HIi.out)
    have HCB := Lib.hid (coset_back (n := lv) (i := i))
    generalize cosMRes lv i = R2 at *
    obtain ⟨⟨p, q, r, s⟩, ce⟩ := R2
    simp only at HI HS HCB
    go_wp2_with fail
    refine (HI.out _).mono ?_; rintro e w5 ⟨rfl, hb5⟩
    have T5 := Lib.hid (bfin T4.out hb5)
    have M5 := Lib.hid (M4.out.below hb5)
    clear hb5 T4 M4 HI
    go_wp2_with fail
    refine (HS.out _).mono ?_; rintro e w6 ⟨rfl, hb6⟩
    have T6 := Lib.hid (belB T5.out (Nat.le_refl _) hb6)
    have M6 := Lib.hid (M5.out.keepB hb6)
    have N6 := Lib.hid (Bm.newB hb6)
    clear hb6 T5 M5 HS
    generalize w5.heap.size = g12 at *
    have hx3 : (ce != ce) = false := by simp
    have hp1 : (p == p) = true := by simp
    have hp2 : (q == q) = true := by simp
    have hp3 : (r == r) = true := by simp
    have hp4 : (s == s) = true := by simp
    have T6' := T6.out.alloc T6.out.size (.cells #[(.int .i64 p), (.int .i64 q), (.int .i64 r), (.int .i64 s)] 25)
    have HD := Lib.hid (DrawCosetOf_any a len cap (w6.alloc (.cells #[(.int .i64 p), (.int .i64 q), (.int .i64 r), (.int .i64 s)] 25)) hl2 (HB.out.after T6'))
    clear T6'
    obtain ⟨⟨c0, c1, c2, c3⟩, -, hl1⟩ := N6.out.open_
    go_wp2_with fail
    refine HD.out.mono ?_; rintro e w7 ⟨⟨ot, U0, U1, U2, U3, rfl⟩, hb7⟩
    have T7' := belB T6.out (Nat.le_refl _) hb7
    have T7 := Lib.hid (T7'.alloc T7'.size (.cells #[(.int .i64 U0), (.int .i64 U1), (.int .i64 U2), (.int .i64 U3)] 25))
    have M7 := Lib.hid ((M6.out.keepB hb7).alloc (.cells #[(.int .i64 U0), (.int .i64 U1), (.int .i64 U2), (.int .i64 U3)] 25))
    have N7 := Lib.hid ((N6.out.keepB hb7).alloc (.cells #[(.int .i64 U0), (.int .i64 U1), (.int .i64 U2), (.int .i64 U3)] 25))
    have O7 := Lib.hid (Bm.new (w := w7) (p := U0) (q := U1) (s := U2) (u := U3))
    clear hb7 T6 M6 N6 HD T7' c0 c1 c2 c3 hl1 hp1 hp2 hp3 hp4 hx3
    have HI := Lib.hid (CosetOf_any ot U0 U1 U2 U3)
    have HS := Lib.hid (sCosetOf_any ot U0 U1 U2 U3)
    have HCM := Lib.hid (coset_member (n := ot) (a := U0) (b := U1) (c := U2) (d := U3))
    have HCV := Lib.hid (coset_val (n := ot) (a := U0) (b := U1) (c := U2) (d := U3))
    generalize cosetRes ot U0 U1 U2 U3 = R3 at *
    obtain ⟨kv, ke⟩ := R3
    simp only at HI HS HCM HCV
    go_wp2_with fail
    refine (HI.out _).mono ?_; rintro e w8 ⟨rfl, hb8⟩
    have T8 := Lib.hid (bfin T7.out hb8)
    have M8 := Lib.hid (M7.out.below hb8)
    have N8 := Lib.hid (N7.out.below hb8)
    have O8 := Lib.hid (O7.out.below hb8)
    clear hb8 T7 M7 N7 O7 HI
    generalize w7.heap.size = g17 at *
    obtain ⟨⟨c0, c1, c2, c3⟩, -, hl1⟩ := O8.out.open_
    go_wp2_with fail
    refine (HS.out _).mono ?_; rintro e w9 ⟨rfl, hb9⟩
    have T9 := Lib.hid (bfin T8.out hb9)
    have M9 := Lib.hid (M8.out.below hb9)
    have N9 := Lib.hid (N8.out.below hb9)
    have O9 := Lib.hid (O8.out.below hb9)
    clear hb9 T8 M8 N8 O8 HS c0 c1 c2 c3 hl1
    have hx4 : (ke != ke) = false := by simp
    have hx5 : (kv != kv) = false := by simp
    have HD := Lib.hid (DrawNormalPair_any a len cap w9 hl2 (HB.out.after T9.out))
    go_wp2_with fail
    refine HD.out.mono ?_; rintro e w10 ⟨⟨na, nc, nd, rfl⟩, hb10⟩
    have T10 := Lib.hid (bfin T9.out hb10)
    have M10 := Lib.hid (M9.out.below hb10)
    have N10 := Lib.hid (N9.out.below hb10)
    have O10 := Lib.hid (O9.out.below hb10)
    clear hb10 T9 M9 N9 O9 HD hx4 hx5
    have HI := Lib.hid (NormalPair_any na nc nd)
    have HS := Lib.hid (sNormalPair_any na nc nd)
    generalize npRes na nc nd = R4 at *
    obtain ⟨⟨px, py⟩, pe⟩ := R4
    simp only at HI HS
    go_wp2_with fail
    refine (HI.out _).mono ?_; rintro e w11 ⟨rfl, hb11⟩
    have T11 := Lib.hid (bfin T10.out hb11)
    have M11 := Lib.hid (M10.out.below hb11)
    have N11 := Lib.hid (N10.out.below hb11)
    have O11 := Lib.hid (O10.out.below hb11)
    clear hb11 T10 M10 N10 O10 HI
    go_wp2_with fail
    refine (HS.out _).mono ?_; rintro e w12 ⟨rfl, hb12⟩
    have T12 := Lib.hid (bfin T11.out hb12)
    have M12 := Lib.hid (M11.out.below hb12)
    have N12 := Lib.hid (N11.out.below hb12)
    have O12 := Lib.hid (O11.out.below hb12)
    clear hb12 T11 M11 N11 O11 HS
    have hx4 : (pe != pe) = false := by simp
    have hx5 : (px != px) = false := by simp
    have hx6 : (py != py) = false := by simp
    have HD := Lib.hid (DrawLineOf_any a len cap w12 hl2 (HB.out.after T12.out))
    go_wp2_with fail
    refine HD.out.mono ?_; rintro e w13 ⟨⟨bl, rfl⟩, hb13⟩
    have T13 := Lib.hid (bfin T12.out hb13)
    have M13 := Lib.hid (M12.out.below hb13)
    have N13 := Lib.hid (N12.out.below hb13)
    have O13 := Lib.hid (O12.out.below hb13)
    clear hb13 T12 M12 N12 O12 HD hx4 hx5 hx6
    have HI := Lib.hid (LineOf_any bl)
    have HS := Lib.hid (sLineOf_any bl)
    have HLU := Lib.hid (line_use (b := bl))
    have HLS := Lib.hid (line_small bl)
    generalize (lineRes bl).xss = X at *
    generalize (lineRes bl).n = ln at *
    generalize (lineRes bl).c = le at *
    go_wp2_with fail
    refine (HI.out _).mono ?_; rintro e w14 ⟨v1, inn1, rfl, hs1, hb14⟩
    have T14 := Lib.hid (bfin T13.out hb14)
    have M14 := Lib.hid (M13.out.below hb14)
    have N14 := Lib.hid (N13.out.below hb14)
    have O14 := Lib.hid (O13.out.below hb14)
    obtain ⟨A1, cap1, rfl, -, -, -⟩ := own_view hs1.out
    have S1 := Lib.hid hs1
    clear hb14 T13 M13 N13 O13 HI hs1
    go_wp2_with fail
    refine (HS.out _).mono ?_; rintro e w15 ⟨v2, inn2, rfl, hs2, hb15⟩
    have T15 := Lib.hid (bfin T14.out hb15)
    have M15 := Lib.hid (M14.out.below hb15)
    have N15 := Lib.hid (N14.out.below hb15)
    have O15 := Lib.hid (O14.out.below hb15)
    obtain ⟨A2, cap2, rfl, -, -, -⟩ := own_view hs2.out
    have S2 := Lib.hid hs2
    have S1' := Lib.hid (S1.out.below hb15)
    clear hb15 T14 M14 N14 O14 HS hs2 S1
    have hx4 : (le != le) = false := by simp
    have hls := HLS.out
    go_wp2_with fail
    refine (rows9_same A1 A2 ln cap1 cap2 _ _ inn1 inn2 X w15 (by unfold maxLen; omega) S1'.out S2.out).mono ?_; rintro e w16 ⟨rfl, hb16⟩
    have T16 := Lib.hid (bfin T15.out hb16)
    have M16 := Lib.hid (M15.out.below hb16)
    have N16 := Lib.hid (N15.out.below hb16)
    have O16 := Lib.hid (O15.out.below hb16)
    clear hb16 T15 M15 N15 O15 S1' S2 HLS
    have HD := Lib.hid (DrawIndexOf_any a len cap w16 hl2 (HB.out.after T16.out))
    go_wp2_with fail
    refine HD.out.mono ?_; rintro e w17 ⟨⟨kd, ee, rfl, -⟩, hb17⟩
    have T17 := Lib.hid (bfin T16.out hb17)
    have M17 := Lib.hid (M16.out.below hb17)
    have N17 := Lib.hid (N16.out.below hb17)
    have O17 := Lib.hid (O16.out.below hb17)
    clear hb17 T16 M16 N16 O16 HD hx4
    have HI := Lib.hid (IndexOf_any kd ee)
    have HS := Lib.hid (sIndexOf_any kd ee)
    have HIX := Lib.hid (IndexOf_any 0 bl)
    generalize idxRes kd ee = R5 at *
    obtain ⟨xv, xe⟩ := R5
    simp only at HI HS
    go_wp2_with fail
    refine (HI.out _).mono ?_; rintro e w18 ⟨rfl, hb18⟩
    have T18 := Lib.hid (bfin T17.out hb18)
    have M18 := Lib.hid (M17.out.below hb18)
    have N18 := Lib.hid (N17.out.below hb18)
    have O18 := Lib.hid (O17.out.below hb18)
    clear hb18 T17 M17 N17 O17 HI
    go_wp2_with fail
    refine (HS.out _).mono ?_; rintro e w19 ⟨rfl, hb19⟩
    have T19 := Lib.hid (bfin T18.out hb19)
    have M19 := Lib.hid (M18.out.below hb19)
    have N19 := Lib.hid (N18.out.below hb19)
    have O19 := Lib.hid (O18.out.below hb19)
    clear hb19 T18 M18 N18 O18 HS
    have hx4 : (xe != xe) = false := by simp
    have hx5 : (xv != xv) = false := by simp
    go_upto_if 224 with (fail)
    go_cut [42, 43, 44, 45, 46, 47, 224] from 225 to 263 (fun _ _ _ _ _ _ _ wx => Hid (Below w.heap.size w wx) ∧ Hid (Bm wx g5 A B C D) ∧ Hid (Bm wx g12 p q r s) ∧ Hid (Bm wx g17 U0 U1 U2 U3))
    case first =>
      by_cases h0 : le = 0
      · have h0' : (le == 0) = true := by simpa using h0
        obtain ⟨hix, hcc, hsum, hlen, -⟩ := HLU.out h0
        rw [hix] at HIX
        have HC := Lib.hid (CuspsOf_any bl)
        rw [hcc, hlen] at HC
        have HSUM := Lib.hid hsum
        have hyl := (cspRes_n bl).1
        rw [hlen] at hyl
        clear HLU h0 hix hcc hsum hlen hx4 hx5 HMO HMN HMI HCB HCM HCV
        generalize (cspRes bl).xss = Y at *
        simp only at HIX
        rw [h0']
        go_wp2_with fail
        refine (HIX.out _).mono ?_; rintro e w20 ⟨rfl, hb20⟩
        have T20 := Lib.hid (bfin T19.out hb20)
        have M20 := Lib.hid (M19.out.below hb20)
        have N20 := Lib.hid (N19.out.below hb20)
        have O20 := Lib.hid (O19.out.below hb20)
        clear hb20 T19 M19 N19 O19 HIX
        go_wp2_with fail
        refine (HC.out _).mono ?_; rintro e w21 ⟨v3, inn3, rfl, hs3, hb21⟩
        have T21 := Lib.hid (bfin T20.out hb21)
        have M21 := Lib.hid (M20.out.below hb21)
        have N21 := Lib.hid (N20.out.below hb21)
        have O21 := Lib.hid (O20.out.below hb21)
        obtain ⟨A3, cap3, rfl, -, -, -⟩ := own_view hs3.out
        have S3 := Lib.hid hs3
        clear hb21 T20 M20 N20 O20 HC hs3
        have hxl : ((ln : Int) != (ln : Int)) = false := by simp
        have HLEN := Lib.hid (sum_take_le (Y.map List.length))
        go_wp2_with fail
        go_loopw [46, 47] (fun x i wr => ∃ k : Nat, x = (.int .i64 ((sumTo Y k : Int))) ∧ i = (.int .i64 ((k : Int))) ∧ k ≤ Y.length ∧ Hid (Below w.heap.size w wr) ∧ Hid (Bm wr g5 A B C D) ∧ Hid (Bm wr g12 p q r s) ∧ Hid (Bm wr g17 U0 U1 U2 U3) ∧ Hid (SS wr w20.heap.size (.slice A3 Y.length cap3) Y.length inn3 (lenX Y) (intX Y))) (fun _ i _ => Y.length - (intOf i).toNat)
        case atStart => exact ⟨0, rfl, rfl, Nat.zero_le _, T21, M21, N21, O21, S3⟩
        case round =>
          clear T21 M21 N21 O21 S3
          obtain ⟨k, rfl, rfl, hk, T22, M22, N22, O22, S4⟩ := hrel
          have hle := sumTo_le Y k
          rw [HSUM.out] at hle
          by_cases hlt : k < Y.length
          · have hlt' : (k : Int) < (Y.length : Int) := by omega
            obtain ⟨u, hu, ho⟩ := S4.out.at_ hlt
            obtain ⟨A4, c4, rfl, -, -, -⟩ := own_view ho
            obtain ⟨bb, rfl, -, hlb, hc, -⟩ := (own_at S4.out.out) (by omega)
            have hck := hc k _ hu
            have hnx := sumTo_next hlt
            have hle2 := sumTo_le Y (k + 1)
            rw [HSUM.out] at hle2
            have HNX := Lib.hid hnx
            have hlx : lenX Y k = (Y.getD k []).length := rfl
            rw [hlx] at hck
            generalize (Y.getD k []).length = lk at *
            have hb2 : sumTo Y k + lk ≤ 3600 := by rw [← HNX.out]; omega
            clear hc hu ho hlx hnx hle2
            go_wp2_with fail
            go_roundw
            case rel => exact ⟨k + 1, by rw [HNX.out]; go_num, by go_num, by omega, T22, M22, N22, O22, S4⟩
            case measure => simp [intOf]; omega
          · have hk2 : k = Y.length := by omega
            have hst : sumTo Y k = ln := by rw [hk2, sumTo_all, HSUM.out]
            have hss : ((sumTo Y k : Int) != (ln : Int)) = false := by rw [hst]; simp
            have hlt' : ¬ (k : Int) < (Y.length : Int) := by omega
            generalize sumTo Y k = S at *
            clear hst hk2 hle
            go_wp2_with fail
            go_meet
            exact ⟨T22, M22, N22, O22⟩
      · have h0' : (le == 0) = false := by simpa using h0
        clear h0
        go_wp2_with fail
        go_meet
        exact ⟨T19, M19, N19, O19⟩
    case rest =>
      obtain ⟨T20, M20, N20, O20⟩ := hcut
      clear T19 M19 N19 O19 HIX HLU hx4 hx5 hls
      go_upto_if 265 with (fail)
      go_cut [48, 49, 50, 51, 52, 53, 54, 55, 265] from 266 to 302 (fun _ _ _ _ _ _ _ _ _ wx => Hid (Below w.heap.size w wx) ∧ Hid (Bm wx g5 A B C D) ∧ Hid (Bm wx g12 p q r s))
      case first =>
        by_cases h0 : ke = 0
        · have h0' : (ke == 0) = true := by simpa using h0
          obtain ⟨hum, hc0, hpm⟩ := HCM.out h0
          have HKV := Lib.hid (HCV.out h0)
          have HX := Lib.hid (fun W => CosetMatrix_any ot kv W HKV.out)
          obtain ⟨-, hom⟩ := coset_back hc0
          have HUM := Lib.hid hum
          have HPM := Lib.hid hpm
          have HOM := Lib.hid hom
          have HC0 := Lib.hid hc0
          rw [HC0.out] at HX
          generalize (cosMRes ot kv).1.p = p' at *
          generalize (cosMRes ot kv).1.q = q' at *
          generalize (cosMRes ot kv).1.r = r' at *
          generalize (cosMRes ot kv).1.s = s' at *
          clear HCM HCV h0 hum hc0 hpm hom HC0 HMO HMN HMI HCB
          rw [h0']
          go_wp2_with fail
          refine (HX.out _).mono ?_; rintro e w21 ⟨rfl, hb21⟩
          have T21 := Lib.hid (bfin T20.out hb21)
          have M21 := Lib.hid (M20.out.below hb21)
          have N21 := Lib.hid (N20.out.below hb21)
          have O21 := Lib.hid (O20.out.below hb21)
          clear hb21 T20 M20 N20 O20 HX
          go_wp2_with fail
          refine (InverseOf_any p' q' r' s' _ HOM.out).mono ?_; rintro e w22 ⟨rfl, hb22⟩
          have T22' := belB T21.out (Nat.le_refl _) hb22
          have T22 := Lib.hid (T22'.alloc T22'.size (.cells #[(.int .i64 s'), (.int .i64 (-q')), (.int .i64 (-r')), (.int .i64 p')] 25))
          have M22 := Lib.hid ((M21.out.keepB hb22).alloc (.cells #[(.int .i64 s'), (.int .i64 (-q')), (.int .i64 (-r')), (.int .i64 p')] 25))
          have N22 := Lib.hid ((N21.out.keepB hb22).alloc (.cells #[(.int .i64 s'), (.int .i64 (-q')), (.int .i64 (-r')), (.int .i64 p')] 25))
          have O22 := Lib.hid (O21.out.keepB hb22)
          clear hb22 T21 M21 N21 O21 T22'
          obtain ⟨⟨c0, c1, c2, c3⟩, -, hl1⟩ := O22.out.open_
          cases hE : entQ (mulM ⟨U0, U1, U2, U3⟩ ⟨s', -q', -r', p'⟩)
          · have HPR := Lib.hid (fun W => ProductOf_no ⟨U0, U1, U2, U3⟩ ⟨s', -q', -r', p'⟩ W HUM.out (mat_inv HOM.out) hE)
            clear hE
            go_wp2_with fail
            refine (HPR.out _).mono ?_; rintro e w23 ⟨rfl, hb23⟩
            have T23 := Lib.hid ((bfin T22.out hb23).alloc (bfin T22.out hb23).size (.cells #[(.int .i64 0), (.int .i64 0), (.int .i64 0), (.int .i64 0)] 25))
            have M23 := Lib.hid ((M22.out.below hb23).alloc (.cells #[(.int .i64 0), (.int .i64 0), (.int .i64 0), (.int .i64 0)] 25))
            have N23 := Lib.hid ((N22.out.below hb23).alloc (.cells #[(.int .i64 0), (.int .i64 0), (.int .i64 0), (.int .i64 0)] 25))
            clear hb23 T22 M22 N22 O22 HPR c0 c1 c2 c3 hl1
            go_wp2_with fail
            go_meet
            exact ⟨T23, M23, N23⟩
          · have HPR := Lib.hid (fun W => ProductOf_any ⟨U0, U1, U2, U3⟩ ⟨s', -q', -r', p'⟩ W HUM.out (mat_inv HOM.out) hE)
            have hPm := mulM_mat (m := ⟨U0, U1, U2, U3⟩) (n := ⟨s', -q', -r', p'⟩) HUM.out (mat_inv HOM.out) hE
            have hmem := HPM.out _ rfl hPm
            have HMB := Lib.hid (IsMember_any 0 ot (mulM ⟨U0, U1, U2, U3⟩ ⟨s', -q', -r', p'⟩).p (mulM ⟨U0, U1, U2, U3⟩ ⟨s', -q', -r', p'⟩).q (mulM ⟨U0, U1, U2, U3⟩ ⟨s', -q', -r', p'⟩).r (mulM ⟨U0, U1, U2, U3⟩ ⟨s', -q', -r', p'⟩).s)
            rw [hmem] at HMB
            clear hE hPm hmem HPM
            generalize (mulM ⟨U0, U1, U2, U3⟩ ⟨s', -q', -r', p'⟩).p = P0 at *
            generalize (mulM ⟨U0, U1, U2, U3⟩ ⟨s', -q', -r', p'⟩).q = P1 at *
            generalize (mulM ⟨U0, U1, U2, U3⟩ ⟨s', -q', -r', p'⟩).r = P2' at *
            generalize (mulM ⟨U0, U1, U2, U3⟩ ⟨s', -q', -r', p'⟩).s = P3 at *
            simp only at HMB
            go_wp2_with fail
            refine (HPR.out _).mono ?_; rintro e w23 ⟨rfl, hb23⟩
            have T23 := Lib.hid (bfin T22.out hb23)
            have M23 := Lib.hid (M22.out.below hb23)
            have N23 := Lib.hid (N22.out.below hb23)
            clear hb23 T22 M22 N22 O22 HPR c0 c1 c2 c3 hl1
            go_wp2_with fail
            refine (HMB.out _).mono ?_; rintro e w24 ⟨rfl, hb24⟩
            have T24 := Lib.hid (belB T23.out (Nat.le_refl _) hb24)
            have M24 := Lib.hid (M23.out.keepB hb24)
            have N24 := Lib.hid (N23.out.keepB hb24)
            clear hb24 T23 M23 N23 HMB
            go_wp2_with fail
            go_meet
            exact ⟨T24, M24, N24⟩
        · have h0' : (ke == 0) = false := by simpa using h0
          clear h0
          go_wp2_with fail
          go_meet
          exact ⟨T20, M20, N20⟩
      case rest =>
        obtain ⟨T21, M21, N21⟩ := hcut
        clear T20 M20 N20 O20 HCM HCV
        go_upto_if 304 with (fail)
        go_cut [56, 57, 304] from 305 to 317 (fun _ _ _ wx => Hid (Below w.heap.size w wx) ∧ Hid (Bm wx g5 A B C D))
        case first =>
          by_cases h0 : ce = 0
          · have h0' : (ce == 0) = true := by simpa using h0
            have HX := Lib.hid (CosetOf_any lv p q r s)
            rw [(HCB.out h0).1] at HX
            simp only at HX
            clear HCB h0 HMO HMN HMI
            obtain ⟨⟨c0, c1, c2, c3⟩, -, hl1⟩ := N21.out.open_
            have hii : (i != i) = false := by simp
            rw [h0']
            go_wp2_with fail
            refine (HX.out _).mono ?_; rintro e w22 ⟨rfl, hb22⟩
            have T22 := Lib.hid (bfin T21.out hb22)
            have M22 := Lib.hid (M21.out.below hb22)
            clear hb22 T21 M21 N21 HX c0 c1 c2 c3 hl1
            go_wp2_with fail
            go_meet
            exact ⟨T22, M22⟩
          · have h0' : (ce == 0) = false := by simpa using h0
            clear h0
            go_wp2_with fail
            go_meet
            exact ⟨T21, M21⟩
        case rest =>
          obtain ⟨T22, M22⟩ := hcut
          clear T21 M21 N21 HCB hx1 hx2
          by_cases h0 : me = 0
          · have h0' : (me != 0) = false := by simpa using h0
            have hAM := HMO.out h0
            have HX := Lib.hid (IsMember_any fam n D (-B) (-C) A)
            rw [HMI.out hAM] at HX
            have HAM := Lib.hid hAM
            have h00 : (me == 0) = true := by simpa using h0
            have hmm : (mb == mb) = true := by simp
            simp only at HX
            clear HMO HMN HMI h0 hAM
            obtain ⟨⟨c0, c1, c2, c3⟩, -, hl1⟩ := M22.out.open_
            go_wp2_with fail
            refine (InverseOf_any A B C D _ HAM.out).mono ?_; rintro e w23 ⟨rfl, hb23⟩
            have T23 := Lib.hid (bfin T22.out hb23)
            clear hb23 T22 M22 c0 c1 c2 c3 hl1
            go_wp2_with fail
            refine (HX.out _).mono ?_; rintro e w24 ⟨rfl, hb24⟩
            have T24 := Lib.hid (belB T23.out (Nat.le_refl _) hb24)
            clear hb24 T23 HX
            go_wp2_with fail
            go_ret
            exact ⟨rfl, T24.out⟩
          · have h0' : (me != 0) = true := by simpa using h0
            obtain rfl : mb = false := HMN.out h0
            clear h0
            go_wp2_with fail
            go_ret
            exact ⟨rfl, T22.out⟩
end Go.Proofs.YtjkemnnkgihefaaGreat
