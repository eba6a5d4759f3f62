/- The walk of the great law of the cusps. -/
import Derived.Test.YtjkemnnkgihefaaE7
import Derived.Test.YtjkemnnkgihefaaE3
import Derived.Test.YtjkemnnkgihefaaD4A
import Derived.Deep.DeepCutAuto
namespace Go.Proofs.Ytjkemnnkgihefaa
open Go.RowKit
/-- A fraction in a block. -/
def Bf (w : World) (r : Nat) (p q : Int) : Prop := w.heap[r]? = some (.cells #[(.int .i64 p), (.int .i64 q)] 25 (0, 0))
theorem Bf.below {r : Nat} {w w' : World} {p q : Int} (h : Bf w r p q) (hb : Below w.heap.size w w') : Bf w' r p q := heap_below h hb
theorem Bf.alloc {r : Nat} {w : World} {p q : Int} (h : Bf w r p q) (o : Obj) : Bf (w.alloc o) r p q := heap_alloc h
theorem Bf.new {w : World} {p q : Int} : Bf (w.alloc (.cells #[(.int .i64 p), (.int .i64 q)] 25)) w.heap.size p q := heap_new
theorem Bf.open_ {r : Nat} {w : World} {p q : Int} (h : Bf w r p q) : (w.cell? ⟨r, 0, none⟩ = some (.int .i64 p) ∧ w.cell? ⟨r, 1, none⟩ = some (.int .i64 q)) ∧ (w.frozen? ⟨r, 0, none⟩ = false ∧ w.frozen? ⟨r, 1, none⟩ = false) ∧ r < w.heap.size := blk_two h
theorem belF {n : Nat} {w0 w w' : World} {o : Obj} (h : Below n w0 w) (hn : n ≤ w0.heap.size) (hb : Below (w.alloc o).heap.size (w.alloc o) w') : Below n w0 w' := by
  have h1 := h.alloc (Nat.le_trans hn h.size) o
  exact h1.trans (hb.mono (Nat.le_trans hn h1.size))
theorem Bf.keepB {r : Nat} {w w' : World} {o : Obj} {p q : Int} (h : Bf w r p q) (hb : Below (w.alloc o).heap.size (w.alloc o) w') : Bf w' r p q := (h.alloc o).below hb
set_option maxRecDepth 1000000 in
set_option maxHeartbeats 16000000 in
theorem lawFnCusps (a : Option Addr) (len cap : Nat) (w : World) (hl : len ≤ maxLen) (hb : Bytes w w.heap.size a len) :
    Calls Try.prog 3 #[.slice a len cap] w fun e w' => e = .returned (.bool true) ∧ Below w.heap.size w w' := by
  have HB := Lib.hid hb
  have HG := Lib.hid (big_any a len cap w hl)
  unfold maxLen at hl
  clear hb
  by_cases hbig : 4096 < len
  · rw [show decide (4096 < len) = true by simpa using hbig] at HG
    go_enter Try.func3, Try.ntmps3
    go_wp2_with fail
    refine HG.out.mono ?_; rintro e w' ⟨rfl, rfl⟩
    go_wp2_with fail
    go_ret
    exact ⟨rfl, Below.refl _ _⟩
  · rw [show decide (4096 < len) = false by simpa using hbig] at HG
    have hl2 : len ≤ 1152921504606846976 := by omega
    have HD := Lib.hid (DrawCuspOfFraction_any a len cap w hl2 HB.out)
    go_enter Try.func3, Try.ntmps3
    go_wp2_with fail
    refine HG.out.mono ?_; rintro e w' ⟨rfl, rfl⟩
    go_wp2_with fail
    refine HD.out.mono ?_; rintro e w1 ⟨⟨n, P, Q, rfl⟩, hb1⟩
    have T1 := Lib.hid (hb1.alloc hb1.size (.cells #[(.int .i64 P), (.int .i64 Q)] 25))
    have M1 := Lib.hid (Bf.new (w := w1) (p := P) (q := Q))
    clear HD HG hb1
    obtain ⟨V, c, HC⟩ := cof_ok n P Q
    have HI := Lib.hid HC.impl
    have HS := Lib.hid HC.spec
    have HY := Lib.hid HC.yes
    have HN := Lib.hid HC.no
    clear HC
    go_wp2_with fail
    refine (HI.out _).mono ?_; rintro e w2 ⟨rfl, hb2⟩
    have T2 := Lib.hid (bfin T1.out hb2)
    have M2 := Lib.hid (M1.out.below hb2)
    clear hb2 T1 M1 HI
    generalize w1.heap.size = g4 at *
    obtain ⟨⟨c0, c1⟩, -, hl1⟩ := M2.out.open_
    go_wp2_with fail
    refine (HS.out _).mono ?_; rintro e w3 ⟨rfl, hb3⟩
    have T3 := Lib.hid (bfin T2.out hb3)
    have M3 := Lib.hid (M2.out.below hb3)
    clear hb3 T2 M2 HS c0 c1 hl1
    have hx1 : (c != c) = false := by simp
    have hx2 : (V != V) = false := by simp
    have HD := Lib.hid (DrawCuspsOf_any a len cap w3 hl2 (HB.out.after T3.out))
    go_wp2_with fail
    refine HD.out.mono ?_; rintro e w4 ⟨⟨L, rfl⟩, hb4⟩
    have T4 := Lib.hid (bfin T3.out hb4)
    have M4 := Lib.hid (M3.out.below hb4)
    clear hb4 T3 M3 HD hx1 hx2
    have HI := Lib.hid (CuspsOf_any L)
    have HS := Lib.hid (sCuspsOf_any L)
    have HLU := Lib.hid (level_use (L := L))
    have HLS := Lib.hid (cspRes_n L).1
    generalize (cspRes L).xss = X at *
    generalize hcn : (cspRes L).n = ln at *
    generalize hcc : (cspRes L).c = le at *
    have HCN := Lib.hid hcn
    have HCC := Lib.hid hcc
    clear hcn hcc
    go_wp2_with fail
    refine (HI.out _).mono ?_; rintro e w5 ⟨v1, inn1, rfl, hs1, hb5⟩
    have T5 := Lib.hid (bfin T4.out hb5)
    have M5 := Lib.hid (M4.out.below hb5)
    obtain ⟨A1, cap1, rfl, -, -, -⟩ := own_view hs1.out
    have S1 := Lib.hid hs1
    clear hb5 T4 M4 HI hs1
    go_wp2_with fail
    refine (HS.out _).mono ?_; rintro e w6 ⟨v2, inn2, rfl, hs2, hb6⟩
    have T6 := Lib.hid (bfin T5.out hb6)
    have M6 := Lib.hid (M5.out.below hb6)
    obtain ⟨A2, cap2, rfl, -, -, -⟩ := own_view hs2.out
    have S2 := Lib.hid hs2
    have S1' := Lib.hid (S1.out.below hb6)
    clear hb6 T5 M5 HS hs2 S1
    have hx3 : (le != le) = false := by simp
    have hls := HLS.out
    go_wp2_with fail
    refine (rows9_same A1 A2 ln cap1 cap2 _ _ inn1 inn2 X w6 (by unfold maxLen; omega) S1'.out S2.out).mono ?_; rintro e w7 ⟨rfl, hb7⟩
    have T7 := Lib.hid (bfin T6.out hb7)
    have M7 := Lib.hid (M6.out.below hb7)
    clear hb7 T6 M6 S1' S2 HLS
    have HD := Lib.hid (DrawCountCusps_any a len cap w7 hl2 (HB.out.after T7.out))
    go_wp2_with fail
    refine HD.out.mono ?_; rintro e w8 ⟨⟨k, rfl⟩, hb8⟩
    have T8 := Lib.hid (bfin T7.out hb8)
    have M8 := Lib.hid (M7.out.below hb8)
    clear hb8 T7 M7 HD hx3
    have HI := Lib.hid (CountCusps_any k)
    have HS := Lib.hid (sCountCusps_any k)
    have HOC := Lib.hid (CountCusps_any L)
    have HIX := Lib.hid (IndexOf_any 0 L)
    generalize cuspRes k = R1 at *
    obtain ⟨kv, ke⟩ := R1
    simp only at HI HS
    go_wp2_with fail
    refine (HI.out _).mono ?_; rintro e w9 ⟨rfl, hb9⟩
    have T9 := Lib.hid (bfin T8.out hb9)
    have M9 := Lib.hid (M8.out.below hb9)
    clear hb9 T8 M8 HI
    go_wp2_with fail
    refine (HS.out _).mono ?_; rintro e w10 ⟨rfl, hb10⟩
    have T10 := Lib.hid (bfin T9.out hb10)
    have M10 := Lib.hid (M9.out.below hb10)
    clear hb10 T9 M9 HS
    have hx1 : (ke != ke) = false := by simp
    have hx2 : (kv != kv) = false := by simp
    have HI := Lib.hid (CountKept_any L)
    have HS := Lib.hid (sCountKept_any L)
    generalize hK : keptRes L = R2 at *
    obtain ⟨⟨ky, kz⟩, kc⟩ := R2
    have HK := Lib.hid hK
    clear hK
    simp only at HI HS
    go_wp2_with fail
    refine (HI.out _).mono ?_; rintro e w11 ⟨rfl, hb11⟩
    have T11 := Lib.hid (bfin T10.out hb11)
    have M11 := Lib.hid (M10.out.below hb11)
    clear hb11 T10 M10 HI
    go_wp2_with fail
    refine (HS.out _).mono ?_; rintro e w12 ⟨rfl, hb12⟩
    have T12 := Lib.hid (bfin T11.out hb12)
    have M12 := Lib.hid (M11.out.below hb12)
    clear hb12 T11 M11 HS hx1 hx2
    have hx1 : (kc != kc) = false := by simp
    have hx2 : (ky != ky) = false := by simp
    have hx3 : (kz != kz) = false := by simp
    have HI := Lib.hid (GenusOf_any L)
    have HS := Lib.hid (sGenusOf_any L)
    generalize hG : genRes L = R3 at *
    obtain ⟨gv, ge⟩ := R3
    have HGe := Lib.hid hG
    clear hG
    simp only at HI HS
    go_wp2_with fail
    refine (HI.out _).mono ?_; rintro e w13 ⟨rfl, hb13⟩
    have T13 := Lib.hid (bfin T12.out hb13)
    have M13 := Lib.hid (M12.out.below hb13)
    clear hb13 T12 M12 HI hx1 hx2 hx3
    go_wp2_with fail
    refine (HS.out _).mono ?_; rintro e w14 ⟨rfl, hb14⟩
    have T14 := Lib.hid (bfin T13.out hb14)
    have M14 := Lib.hid (M13.out.below hb14)
    clear hb14 T13 M13 HS
    have hx1 : (ge != ge) = false := by simp
    have hx2 : (gv != gv) = false := by simp
    have HU := Lib.hid (show le = 0 → cuspRes L = ((ln : Int), 0) ∧ idxRes 0 L = (((lineL L).length : Int), 0) ∧ kc = 0 ∧ ge = 0 ∧ 0 ≤ gv ∧ 12 * gv = 12 + ((lineL L).length : Int) - 3 * ky - 4 * kz - 6 * (ln : Int) ∧ (0 ≤ ky ∧ ky ≤ 3600) ∧ (0 ≤ kz ∧ kz ≤ 3600) ∧ (lineL L).length ≤ 3600 ∧ gv ≤ 1000000 from fun h0 => by
      obtain ⟨u1, u2, u3, u4, u5, u6, u7, u8, u9, u10⟩ := HLU.out h0
      rw [HCN.out] at u1 u6
      rw [HK.out] at u3 u6 u7 u8
      rw [HGe.out] at u4 u5 u6 u10
      exact ⟨u1, u2, u3, u4, u5, u6, u7, u8, u9, u10⟩)
    clear HLU HCN HCC HK HGe
    go_upto_if 153 with (fail)
    go_cut [29, 30, 31, 32, 153] from 154 to 203 (fun _ _ _ _ _ wx => Hid (Below w.heap.size w wx) ∧ Hid (Bf wx g4 P Q))
    case first =>
      by_cases h0 : le = 0
      · have h0' : (le == 0) = true := by simpa using h0
        obtain ⟨u1, u2, rfl, rfl, u5, u6, u7, u8, u9, u10⟩ := HU.out h0
        rw [u1] at HOC
        rw [u2] at HIX
        clear HU h0 u1 u2 hx1 hx2 HY HN
        generalize (lineL L).length = len1 at *
        simp only at HOC HIX
        rw [h0']
        go_wp2_with fail
        refine (HOC.out _).mono ?_; rintro e w15 ⟨rfl, hb15⟩
        have T15 := Lib.hid (bfin T14.out hb15)
        have M15 := Lib.hid (M14.out.below hb15)
        clear hb15 T14 M14 HOC
        go_wp2_with fail
        refine (HIX.out _).mono ?_; rintro e w16 ⟨rfl, hb16⟩
        have T16 := Lib.hid (bfin T15.out hb16)
        have M16 := Lib.hid (M15.out.below hb16)
        clear hb16 T15 M15 HIX
        have hy1 : ((ln : Int) != (ln : Int)) = false := by simp
        have hy2 : (12 * gv != 12 + (len1 : Int) - 3 * ky - 4 * kz - 6 * (ln : Int)) = false := by simp; omega
        go_wp2_with fail
        go_meet
        exact ⟨T16, M16⟩
      · have h0' : (le == 0) = false := by simpa using h0
        clear h0
        go_wp2_with fail
        go_meet
        exact ⟨T14, M14⟩
    case rest =>
      obtain ⟨T15, M15⟩ := hcut
      clear T14 M14 HOC HIX HU hx1 hx2 hls
      by_cases h0 : c = 0
      · have h0' : (c != 0) = false := by simpa using h0
        obtain ⟨hf, U1, U2⟩ := HY.out h0
        have HL1 := Lib.hid (fun W => LeadFraction_any 1 0 n 1 P Q W U1.mat hf U1.cop)
        have HL2 := Lib.hid (fun W => LeadFraction_any 1 1 0 1 P Q W U2.mat hf U2.cop)
        have HC1 := Lib.hid U1.same
        have HC2 := Lib.hid U2.same
        have hE1 := coRes_err (1 * P + 0 * Q) (n * P + 1 * Q)
        clear HY HN U1 U2 hf h0
        generalize coRes (1 * P + 0 * Q) (n * P + 1 * Q) = R1 at *
        generalize coRes (1 * P + 1 * Q) (0 * P + 1 * Q) = R2 at *
        obtain ⟨⟨x1, y1⟩, k1⟩ := R1
        obtain ⟨⟨x2, y2⟩, k2⟩ := R2
        simp only at HL1 HL2 HC1 HC2 hE1
        obtain ⟨⟨c0, c1⟩, -, hl1⟩ := M15.out.open_
        go_wp2_with fail
        refine (HL1.out _).mono ?_; rintro e w16 ⟨rfl, hb16⟩
        have T16' := bfin T15.out hb16
        have T16 := Lib.hid (T16'.alloc T16'.size (.cells #[(.int .i64 x1), (.int .i64 y1)] 25))
        have M16 := Lib.hid ((M15.out.below hb16).alloc (.cells #[(.int .i64 x1), (.int .i64 y1)] 25))
        have N16 := Lib.hid (Bf.new (w := w16) (p := x1) (q := y1))
        clear hb16 T15 M15 HL1 T16' c0 c1 hl1
        by_cases h1 : k1 = 0
        · subst h1
          have HC1' := Lib.hid (HC1.out rfl)
          clear HC1 hE1
          obtain ⟨⟨c0, c1⟩, -, hl1⟩ := N16.out.open_
          go_wp2_with fail
          refine (HC1'.out _).mono ?_; rintro e w17 ⟨rfl, hb17⟩
          have T17 := Lib.hid (bfin T16.out hb17)
          have M17 := Lib.hid (M16.out.below hb17)
          clear hb17 T16 M16 N16 HC1' c0 c1 hl1
          generalize w16.heap.size = g33 at *
          obtain ⟨⟨c0, c1⟩, -, hl1⟩ := M17.out.open_
          go_wp2_with fail
          refine (HL2.out _).mono ?_; rintro e w18 ⟨rfl, hb18⟩
          have T18' := bfin T17.out hb18
          have T18 := Lib.hid (T18'.alloc T18'.size (.cells #[(.int .i64 x2), (.int .i64 y2)] 25))
          have N18 := Lib.hid (Bf.new (w := w18) (p := x2) (q := y2))
          clear hb18 T17 M17 HL2 T18' c0 c1 hl1
          have hV : (V == V) = true := by simp
          by_cases h2 : k2 = 0
          · subst h2
            have HC2' := Lib.hid (HC2.out rfl)
            clear HC2
            obtain ⟨⟨c0, c1⟩, -, hl1⟩ := N18.out.open_
            go_wp2_with fail
            refine (HC2'.out _).mono ?_; rintro e w19 ⟨rfl, hb19⟩
            have T19 := Lib.hid (bfin T18.out hb19)
            clear hb19 T18 N18 HC2' c0 c1 hl1
            go_wp2_with fail
            go_ret
            exact ⟨rfl, T19.out⟩
          · have h2' : (k2 != 0) = true := by simpa using h2
            clear h2 HC2
            go_wp2_with fail
            go_ret
            exact ⟨rfl, T18.out⟩
        · obtain rfl : k1 = 3 := by omega
          clear h1 hE1 HC1 HC2 HL2
          go_wp2_with fail
          go_ret
          exact ⟨rfl, T16.out⟩
      · have h0' : (c != 0) = true := by simpa using h0
        obtain rfl : V = 0 := HN.out h0
        clear h0
        go_wp2_with fail
        go_ret
        exact ⟨rfl, T15.out⟩
end Go.Proofs.Ytjkemnnkgihefaa
