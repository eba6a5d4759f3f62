/- The walk of the great law of first and second numbers. -/
import Derived.Test.YtkhlgphmimddhaaD17
import Derived.Test.YtkhlgphmimddhaaD4
import Derived.Test.YtkhlgphmimddhaaC44
import Derived.Deep.DeepCutAuto
namespace Go.Proofs.Ytkhlgphmimddhaa
open Go.RowKit
/-- The sign of a gap, as the law reckons it. -/
def sgnN (l : List Int) : Nat → Int
  | 0 => -3
  | j + 1 => sgnN l j * sgP (l.getD j 0)
theorem sgnN_bd (l : List Int) (j : Nat) : -3 ≤ sgnN l j ∧ sgnN l j ≤ 3 := by
  induction j with
  | zero => simp [sgnN]
  | succ j ih =>
    unfold sgnN
    rcases sg_cases (l.getD j 0) with ⟨_, h⟩ | ⟨_, h⟩ | ⟨_, h⟩ <;> rw [h] <;> omega
theorem sgnN_three (x y z : Int) : sgnN [x, y, z] 3 = -3 * (sgP x * sgP y * sgP z) := by
  simp only [sgnN, List.getD_cons_zero, List.getD_cons_succ]
  grind
/-- Four names in a block. -/
def NB4 (w : World) (r : Nat) : Prop := w.heap[r]? = some (.cells #[.string ⟨#[83]⟩, .string ⟨#[84]⟩, .string ⟨#[76]⟩, .string ⟨#[85]⟩] 9 (0, 0))
theorem NB4.at {w : World} {r x : Nat} (h : NB4 w r) (hx : x < 4) : ∃ s, w.cell? ⟨r, x, none⟩ = some (.string s) ∧ IsName s := by
  rcases (show x = 0 ∨ x = 1 ∨ x = 2 ∨ x = 3 by omega) with rfl | rfl | rfl | rfl
  · exact ⟨_, cell_of_blk h 0, .inl rfl⟩
  · exact ⟨_, cell_of_blk h 1, .inr (.inl rfl)⟩
  · exact ⟨_, cell_of_blk h 2, .inr (.inr (.inl rfl))⟩
  · exact ⟨_, cell_of_blk h 3, .inr (.inr (.inr rfl))⟩
theorem NB4.below {r : Nat} {w w' : World} (h : NB4 w r) (hb : Below w.heap.size w w') : NB4 w' r := heap_below h hb
theorem NB4.alloc {r : Nat} {w : World} (h : NB4 w r) (o : Obj) : NB4 (w.alloc o) r := heap_alloc h
theorem Bm.keepA {r : Nat} {w w' : World} {o : Obj} {p q s u : Int} (h : Bm w r p q s u) (hb : Below (w.alloc o).heap.size (w.alloc o) w') : Bm w' r p q s u := (h.alloc o).below hb
theorem NB4.keepA {r : Nat} {w w' : World} {o : Obj} (h : NB4 w r) (hb : Below (w.alloc o).heap.size (w.alloc o) w') : NB4 w' r := (h.alloc o).below hb
theorem belA {n : Nat} {w0 w w' : World} {o : Obj} (h : Below n w0 w) (hn : n ≤ w0.heap.size) (hb : Below (w.alloc o).heap.size (w.alloc o) w') : Below n w0 w' := by
  have h1 := h.alloc (Nat.le_trans hn h.size) o
  exact h1.trans (hb.mono (Nat.le_trans hn h1.size))
/-- What the law does with a matrix that has a second number. -/
theorem second_calls {a b c d : Int} (h : (firstAll a b c d).2 = 0) {p q r s : Int} (hn : IsMat p q r s) :
    IsMat a b c d ∧ (∀ P : M4, P = mulM (mulM ⟨p, q, r, s⟩ ⟨a, b, c, d⟩) (invM ⟨p, q, r, s⟩) → (secondRes P.p P.q P.r P.s).2 = 0 → (secondRes P.p P.q P.r P.s).1 = (secondRes a b c d).1) := by
  obtain ⟨hm, -, -⟩ := first_open h
  refine ⟨hm, ?_⟩
  rintro P rfl hP
  exact second_use (m := ⟨a, b, c, d⟩) (n := ⟨p, q, r, s⟩) hm hn (by rw [← codes_same]; exact h) hP
set_option maxRecDepth 1000000 in
set_option maxHeartbeats 8000000 in
theorem lawFnRademacher (a : Option Addr) (len cap : Nat) (w : World) (hl : len ≤ maxLen) (hb : Bytes w w.heap.size a len) :
    Calls Try.prog 13 #[.slice a len cap] w fun e w' => e = .returned (.bool true) ∧ Below w.heap.size w w' := by
  have HB := Lib.hid hb
  have HG := Lib.hid (big_any a len cap w hl)
  unfold maxLen at hl
  clear hb
  by_cases hbig : 4096 < len
  · rw [show decide (4096 < len) = true by simpa using hbig] at HG
    go_enter Try.func13, Try.ntmps13
    go_wp2_with fail
    refine HG.out.mono ?_; rintro e w' ⟨rfl, rfl⟩
    go_wp2_with fail
    go_ret
    exact ⟨rfl, Below.refl _ _⟩
  · rw [show decide (4096 < len) = false by simpa using hbig] at HG
    have HD1 := Lib.hid (DrawFirstNumber_any a len cap w (by omega) HB.out)
    go_enter Try.func13, Try.ntmps13
    go_wp2_with fail
    refine HG.out.mono ?_; rintro e w' ⟨rfl, rfl⟩
    go_wp2_with fail
    refine HD1.out.mono ?_; rintro e w1 ⟨⟨A, B, C, D, rfl⟩, hb1⟩
    have T1 := Lib.hid (hb1.alloc hb1.size (.cells #[(.int .i64 A), (.int .i64 B), (.int .i64 C), (.int .i64 D)] 36))
    have M1 := Lib.hid (Bm.new (w := w1) (p := A) (q := B) (s := C) (u := D))
    clear HD1 HG hb1
    have HF := Lib.hid (FirstNumber_any A B C D)
    have HFs := Lib.hid (sFirstNumber_any A B C D)
    have HS := Lib.hid (SecondNumber_any A B C D)
    have HSs := Lib.hid (sSecondNumber_any A B C D)
    have HCD := Lib.hid (codes_same A B C D)
    have HI := Lib.hid (first_inv (a := A) (b := B) (c := C) (d := D))
    have HFB := Lib.hid (first_bd (a := A) (b := B) (c := C) (d := D))
    have HSC := Lib.hid (fun (h : (firstAll A B C D).2 = 0) (p q r s : Int) (hn : IsMat p q r s) => second_calls h hn)
    generalize firstAll A B C D = R at *
    generalize secondRes A B C D = R2 at *
    obtain ⟨f, e1⟩ := R
    obtain ⟨g, e2⟩ := R2
    simp only at HF HFs HS HSs HCD HI HFB HSC
    obtain rfl : e1 = e2 := HCD.out
    clear HCD
    go_wp2_with fail
    refine (HF.out _).mono ?_; rintro e w2 ⟨rfl, hb2⟩
    have T2 := Lib.hid (bfin T1.out hb2)
    have M2 := Lib.hid (M1.out.below hb2)
    clear hb2 T1 M1 HF
    obtain ⟨⟨c0, c1, c2, c3⟩, -, hl1⟩ := M2.out.open_
    go_wp2_with fail
    refine (HFs.out _).mono ?_; rintro e w3 ⟨rfl, hb3⟩
    have T3 := Lib.hid (bfin T2.out hb3)
    have M3 := Lib.hid (M2.out.below hb3)
    clear hb3 T2 M2 HFs c0 c1 c2 c3 hl1
    obtain ⟨⟨c0, c1, c2, c3⟩, -, hl1⟩ := M3.out.open_
    go_wp2_with fail
    refine (HS.out _).mono ?_; rintro e w4 ⟨rfl, hb4⟩
    have T4 := Lib.hid (bfin T3.out hb4)
    have M4 := Lib.hid (M3.out.below hb4)
    clear hb4 T3 M3 HS c0 c1 c2 c3 hl1
    obtain ⟨⟨c0, c1, c2, c3⟩, -, hl1⟩ := M4.out.open_
    go_wp2_with fail
    refine (HSs.out _).mono ?_; rintro e w5 ⟨rfl, hb5⟩
    have T5 := Lib.hid (bfin T4.out hb5)
    have M5 := Lib.hid (M4.out.below hb5)
    clear hb5 T4 M4 HSs c0 c1 c2 c3 hl1
    obtain ⟨⟨c0, c1, c2, c3⟩, -, hl1⟩ := M5.out.open_
    have hx1 : (e1 != e1) = false := by simp
    have hx2 : (f != f) = false := by simp
    have hx3 : (g != g) = false := by simp
    go_upto_if 83 with (fail)
    go_cut [12, 13, 14, 15, 16, 17, 18, 19, 20, 21, 22, 23, 83] from 84 to 146 (fun _ _ _ _ _ _ _ _ _ _ _ _ _ wx => Hid (Below w.heap.size w wx))
    case first =>
      by_cases h0 : e1 = 0
      · have h0' : (e1 == 0) = true := by simpa using h0
        have HI0 := Lib.hid (HI.out h0)
        have HSC0 := Lib.hid (HSC.out h0)
        obtain ⟨f0, f1⟩ := HFB.out h0
        obtain ⟨hmA, -⟩ := HSC0.out 1 0 0 1 ⟨by omega, by omega, by omega, by omega, by omega, by omega, by omega, by omega, by omega⟩
        have HMA := Lib.hid hmA
        have HFI := Lib.hid (FirstNumber_any D (-B) (-C) A)
        rw [HI0.out] at HFI
        simp only at HFI
        clear HI HSC HFB h0 HI0 hmA
        rw [h0']
        go_wp2_with fail
        refine (InverseOf_any A B C D _ HMA.out).mono ?_; rintro e w6 ⟨rfl, hb6⟩
        have T6 := Lib.hid (bfin T5.out hb6)
        have M6 := Lib.hid (M5.out.below hb6)
        clear hb6 T5 M5 c0 c1 c2 c3 hl1
        go_wp2_with fail
        refine (HFI.out _).mono ?_; rintro e w7 ⟨rfl, hb7⟩
        have T7 := Lib.hid (belA T6.out (Nat.le_refl _) hb7)
        have M7 := Lib.hid (M6.out.keepA hb7)
        clear hb7 T6 M6 HFI
        have hy1 : (-f != -f) = false := by simp
        have hTN := Lib.hid (T7.out.alloc T7.out.size (.cells #[.string ⟨#[83]⟩, .string ⟨#[84]⟩, .string ⟨#[76]⟩, .string ⟨#[85]⟩] 9))
        have hMN := Lib.hid (M7.out.alloc (.cells #[.string ⟨#[83]⟩, .string ⟨#[84]⟩, .string ⟨#[76]⟩, .string ⟨#[85]⟩] 9))
        have hNN := Lib.hid (show NB4 (w7.alloc (.cells #[.string ⟨#[83]⟩, .string ⟨#[84]⟩, .string ⟨#[76]⟩, .string ⟨#[85]⟩] 9)) w7.heap.size from heap_new)
        go_wp2_with fail
        go_loopw [17] (fun i wr => ∃ j : Nat, i = (.int .i64 ((j : Int))) ∧ j ≤ 4 ∧ Hid (Below w.heap.size w wr) ∧ Hid (Bm wr w1.heap.size A B C D) ∧ Hid (NB4 wr w7.heap.size)) (fun i _ => 4 - (intOf i).toNat)
        case atStart => exact ⟨0, rfl, by omega, hTN, hMN, hNN⟩
        case round =>
          clear T7 M7 hTN hMN hNN
          obtain ⟨j, rfl, hj, T8, M8, N8⟩ := hrel
          by_cases hj4 : j < 4
          · have hj4' : (j : Int) < 4 := by omega
            obtain ⟨st, hst, hin⟩ := N8.out.at hj4
            have HIN := Lib.hid hin
            clear hin
            go_wp2_with fail
            refine (NamedMatrix_any st _ HIN.out).mono ?_; rintro e w9 ⟨⟨p, q, r, s, rfl, hn⟩, hb9⟩
            have HN := Lib.hid hn
            have HV := Lib.hid (HSC0.out p q r s hn).2
            have T9 := Lib.hid (bfin T8.out hb9)
            have M9 := Lib.hid (M8.out.below hb9)
            have N9 := Lib.hid (N8.out.below hb9)
            clear hb9 hn T8 M8 N8 hst HIN
            obtain ⟨⟨c0, c1, c2, c3⟩, -, hl1⟩ := M9.out.open_
            go_wp2_with fail
            refine (ConjugateBy_any A B C D p q r s _ HMA.out HN.out).mono ?_; rintro e w10 ⟨hconj, hb10⟩
            have T10 := Lib.hid (belA T9.out (Nat.le_refl _) hb10)
            have M10 := Lib.hid (M9.out.keepA hb10)
            have N10 := Lib.hid (N9.out.keepA hb10)
            clear hb10 T9 M9 N9 c0 c1 c2 c3 hl1
            rcases hconj with ⟨P, rfl, hP⟩ | rfl
            · have HVP := Lib.hid (HV.out P hP)
              have HS2 := Lib.hid (SecondNumber_any P.p P.q P.r P.s)
              clear hP HV
              generalize secondRes P.p P.q P.r P.s = R3 at *
              obtain ⟨v, k⟩ := R3
              simp only at HVP HS2
              go_wp2_with fail
              refine (HS2.out _).mono ?_; rintro e w11 ⟨rfl, hb11⟩
              have T11 := Lib.hid (belA T10.out (Nat.le_refl _) hb11)
              have M11 := Lib.hid (M10.out.keepA hb11)
              have N11 := Lib.hid (N10.out.keepA hb11)
              clear hb11 T10 M10 N10 HS2
              by_cases hk : k = 0
              · obtain rfl : v = g := HVP.out hk
                have hk' : (k == 0) = true := by simpa using hk
                clear hk
                go_wp2_with fail
                go_roundw
                case rel => exact ⟨j + 1, by go_num, by omega, T11, M11, N11⟩
                case measure => simp [intOf]; omega
              · have hk' : (k == 0) = false := by simpa using hk
                clear hk
                go_wp2_with fail
                go_roundw
                case rel => exact ⟨j + 1, by go_num, by omega, T11, M11, N11⟩
                case measure => simp [intOf]; omega
            · have HS2 := Lib.hid (SecondNumber_any 0 0 0 0)
              clear HV
              generalize secondRes 0 0 0 0 = R3 at *
              obtain ⟨v, k⟩ := R3
              simp only at HS2
              go_wp2_with fail
              refine (HS2.out _).mono ?_; rintro e w11 ⟨rfl, hb11⟩
              have T11 := Lib.hid (belA T10.out (Nat.le_refl _) hb11)
              have M11 := Lib.hid (M10.out.keepA hb11)
              have N11 := Lib.hid (N10.out.keepA hb11)
              clear hb11 T10 M10 N10 HS2
              go_wp2_with fail
              go_roundw
              case rel => exact ⟨j + 1, by go_num, by omega, T11, M11, N11⟩
              case measure => simp [intOf]; omega
          · obtain rfl : j = 4 := by omega
            go_wp2_with fail
            go_meet
            exact T8
      · have h0' : (e1 == 0) = false := by simpa using h0
        clear h0
        go_wp2_with fail
        go_meet
        exact T5
    case rest =>
      have T1 := hcut
      clear T5 M5 HI HFB HSC hcut c0 c1 c2 c3 hl1 hx1 hx2 hx3
      have HD2 := Lib.hid (DrawProductGap_any a len cap wc (by omega) (HB.out.after T1.out |> fun h => h))
      go_wp2_with fail
      refine HD2.out.mono ?_; rintro e w21 ⟨⟨a0, a1, a2, a3, b0, b1, b2, b3, rfl⟩, hb1⟩
      have T2' := bfin T1.out hb1
      have T2 := Lib.hid ((T2'.alloc T2'.size (.cells #[(.int .i64 a0), (.int .i64 a1), (.int .i64 a2), (.int .i64 a3)] 36)).alloc (Nat.le_trans T2'.size (by simp)) (.cells #[(.int .i64 b0), (.int .i64 b1), (.int .i64 b2), (.int .i64 b3)] 36))
      have MA := Lib.hid ((Bm.new (w := w21) (p := a0) (q := a1) (s := a2) (u := a3)).alloc (.cells #[(.int .i64 b0), (.int .i64 b1), (.int .i64 b2), (.int .i64 b3)] 36))
      have MB := Lib.hid (Bm.newE (g := w21.heap.size + 1) (w := w21.alloc (.cells #[(.int .i64 a0), (.int .i64 a1), (.int .i64 a2), (.int .i64 a3)] 36)) (p := b0) (q := b1) (s := b2) (u := b3) (by simp))
      clear HD2 hb1 T1 T2'
      have HI := Lib.hid (fun W => iGap_any ⟨a0, a1, a2, a3⟩ ⟨b0, b1, b2, b3⟩ W)
      have HS := Lib.hid (fun W => sProductGap_any ⟨a0, a1, a2, a3⟩ ⟨b0, b1, b2, b3⟩ W)
      have HU := Lib.hid (gap_use (m := ⟨a0, a1, a2, a3⟩) (n := ⟨b0, b1, b2, b3⟩))
      generalize gapRes ⟨a0, a1, a2, a3⟩ ⟨b0, b1, b2, b3⟩ = R4 at *
      obtain ⟨G, K⟩ := R4
      simp only at HI HS HU
      go_wp2_with fail
      refine (HI.out _).mono ?_; rintro e w22 ⟨rfl, hb2⟩
      have T3 := Lib.hid (bfin T2.out hb2)
      have MA2 := Lib.hid (MA.out.below hb2)
      have MB2 := Lib.hid (MB.out.below hb2)
      clear T2 MA MB hb2 HI
      generalize w21.heap.size = ga at *
      obtain ⟨⟨c0, c1, c2, c3⟩, -, hl1⟩ := MA2.out.open_
      obtain ⟨⟨d0, d1, d2, d3⟩, -, hl2⟩ := MB2.out.open_
      go_wp2_with fail
      refine (HS.out _).mono ?_; rintro e w23 ⟨rfl, hb3⟩
      have T4 := Lib.hid (bfin T3.out hb3)
      have MA := Lib.hid (MA2.out.below hb3)
      have MB := Lib.hid (MB2.out.below hb3)
      clear T3 MA2 MB2 hb3 HS c0 c1 c2 c3 hl1 d0 d1 d2 d3 hl2
      have hx1 : (G != G) = false := by simp
      have hx2 : (K != K) = false := by simp
      obtain ⟨⟨c0, c1, c2, c3⟩, -, hl1⟩ := MA.out.open_
      obtain ⟨⟨d0, d1, d2, d3⟩, -, hl2⟩ := MB.out.open_
      go_upto_if 173 with (fail)
      go_cut [30, 31, 32, 33, 34, 173] from 174 to 205 (fun _ _ _ _ _ _ wx => Hid (Below w.heap.size w wx))
      case first =>
        by_cases h0 : K = 0
        · have h0' : (K == 0) = true := by simpa using h0
          obtain ⟨hA, hB, hE, hG⟩ := HU.out h0
          have HPO := Lib.hid (fun W => ProductOf_any ⟨a0, a1, a2, a3⟩ ⟨b0, b1, b2, b3⟩ W (isMat_iff.1 hA) (isMat_iff.1 hB) hE)
          have H3 := Lib.hid (sgnN_three a2 b2 (mulM ⟨a0, a1, a2, a3⟩ ⟨b0, b1, b2, b3⟩).r)
          have HG := Lib.hid hG
          clear HU h0 hA hB hE hG
          generalize (mulM ⟨a0, a1, a2, a3⟩ ⟨b0, b1, b2, b3⟩).p = p at *
          generalize (mulM ⟨a0, a1, a2, a3⟩ ⟨b0, b1, b2, b3⟩).q = q at *
          generalize (mulM ⟨a0, a1, a2, a3⟩ ⟨b0, b1, b2, b3⟩).r = r at *
          generalize (mulM ⟨a0, a1, a2, a3⟩ ⟨b0, b1, b2, b3⟩).s = s at *
          rw [h0']
          go_wp2_with fail
          refine (HPO.out _).mono ?_; rintro e w24 ⟨rfl, hb4⟩
          have T5 := Lib.hid (bfin T4.out hb4)
          have MA2 := Lib.hid (MA.out.below hb4)
          have MB2 := Lib.hid (MB.out.below hb4)
          clear T4 MA MB hb4 HPO c0 c1 c2 c3 hl1 d0 d1 d2 d3 hl2
          obtain ⟨⟨c0, c1, c2, c3⟩, -, hl1⟩ := MA2.out.open_
          obtain ⟨⟨d0, d1, d2, d3⟩, -, hl2⟩ := MB2.out.open_
          go_wp2_with fail
          have hcl := Lib.hid (lit_cells (w := w24.alloc (.cells #[(.int .i64 p), (.int .i64 q), (.int .i64 r), (.int .i64 s)] 36)) (cs := #[(.int .i64 a2), (.int .i64 b2), (.int .i64 r)]) (t := 2) (xs := [a2, b2, r]) rfl)
          have TW := Lib.hid ((T5.out.alloc T5.out.size (.cells #[(.int .i64 p), (.int .i64 q), (.int .i64 r), (.int .i64 s)] 36)).alloc (Nat.le_trans T5.out.size (by simp)) (.cells #[(.int .i64 a2), (.int .i64 b2), (.int .i64 r)] 2))
          have hsz : (w24.alloc (.cells #[(.int .i64 p), (.int .i64 q), (.int .i64 r), (.int .i64 s)] 36)).heap.size = w24.heap.size + 1 := by simp
          rw [hsz] at hcl
          generalize (w24.alloc (.cells #[(.int .i64 p), (.int .i64 q), (.int .i64 r), (.int .i64 s)] 36)).alloc (.cells #[(.int .i64 a2), (.int .i64 b2), (.int .i64 r)] 2) = W at *
          clear hsz c0 c1 c2 c3 hl1 d0 d1 d2 d3 hl2 MA2 MB2 T5
          have HLL := Lib.hid (rfl : [a2, b2, r] = [a2, b2, r])
          generalize hll : [a2, b2, r] = ll at hcl H3 HLL
          have hlen : ll.length = 3 := by rw [← hll]; rfl
          have HLEN := Lib.hid hlen
          clear hll HLL hlen
          go_loop [32, 188] (fun x i => ∃ j : Nat, x = (.int .i64 (sgnN ll j)) ∧ i = (.int .i64 ((j : Int))) ∧ j ≤ 3) (fun _ i => 3 - (intOf i).toNat)
          case atStart => exact ⟨0, rfl, rfl, by omega⟩
          case round =>
            obtain ⟨j, rfl, rfl, hj⟩ := hrel
            have hb3 := sgnN_bd ll j
            by_cases hj3 : j < 3
            · have hj3' : (j : Int) < 3 := by omega
              have hc := hcl.out j (by rw [HLEN.out]; exact hj3)
              have HSN := Lib.hid (show sgnN ll (j + 1) = sgnN ll j * sgP (ll.getD j 0) from rfl)
              generalize ll.getD j 0 = x at *
              generalize sgnN ll j = t at *
              have hcase := sg_cases x
              obtain ⟨t0, t1⟩ := hb3
              rcases hcase with ⟨hx, hs⟩ | ⟨hx, hs⟩ | ⟨hx, hs⟩
              · rw [hs] at HSN
                have hx0 : (x == 0) = false := by simp; omega
                clear hs
                go_wp2_with fail
                go_round
                case rel => exact ⟨j + 1, by rw [HSN.out]; congr 1; omega, by go_num, by omega⟩
                case measure => simp [intOf]; omega
              · rw [hs] at HSN
                subst hx
                clear hs
                go_wp2_with fail
                go_round
                case rel => exact ⟨j + 1, by rw [HSN.out]; congr 1; omega, by go_num, by omega⟩
                case measure => simp [intOf]; omega
              · rw [hs] at HSN
                have hx0 : (x == 0) = false := by simp; omega
                have hx1' : ¬ x < 0 := by omega
                clear hs
                go_wp2_with fail
                go_round
                case rel => exact ⟨j + 1, by rw [HSN.out]; congr 1; omega, by go_num, by omega⟩
                case measure => simp [intOf]; omega
            · obtain rfl : j = 3 := by omega
              have hGS : (G != sgnN ll 3) = false := by rw [H3.out, HG.out]; simp
              clear hcl
              generalize sgnN ll 3 = S at *
              go_wp2_with fail
              go_meet
              exact TW
        · have h0' : (K == 0) = false := by simpa using h0
          clear h0
          go_wp2_with fail
          go_meet
          exact T4
      case rest =>
        clear T4 HU
        go_wp2_with fail
        go_ret
        exact ⟨rfl, hcut.out⟩
end Go.Proofs.Ytkhlgphmimddhaa
