/- Draws of levels, pairs and matrices for the subgroups. -/
import Derived.Test.YtjkemnnkgihefaaGreatD15
import Derived.Deep.DeepCutAuto
namespace Go.Proofs.YtjkemnnkgihefaaGreat
open Go.RowKit
theorem l06DrawLevel_any (n b : Nat) (w : World) (hs : Src w n b) :
    Calls Tryz.prog 38 #[.pointer (some ⟨b, 0, none⟩)] w fun e w' => ∃ x : Int, e = .returned (.int .i64 x) ∧ (-1 ≤ x ∧ x ≤ 1099511627776) ∧ Src w' n b ∧ w.grownBy w' (some b) := by
  have I0 := Lib.hid (InS.start hs)
  clear hs
  go_enter Tryz.func38, Tryz.ntmps38
  go_wp2_with fail
  refine (l01Next_any n b 30 _ (by omega) I0.out.src).mono ?_; rintro e w1 ⟨x, rfl, -, hs1, hg1⟩
  have I1 := Lib.hid (I0.out.turn hs1 hg1)
  clear I0 hs1 hg1
  by_cases h0 : x = 0
  · subst h0
    go_wp2_with fail
    refine (pick_lit [0, 61, -1, 1099511627776] rfl I1.out.src rfl (by simp) (by simp)).mono ?_; rintro e w2 ⟨y, rfl, hy, hs2, hg2⟩
    have I2 := Lib.hid (I1.out.turn hs2 hg2)
    have hy2 : -1 ≤ y ∧ y ≤ 1099511627776 := by simp at hy; omega
    clear I1 hs2 hg2 hy
    go_wp2_with fail
    go_ret
    exact ⟨y, rfl, hy2, I2.out.src, I2.out.grown⟩
  · have h0' : (x == 0) = false := by simpa using h0
    go_wp2_with fail
    refine (pick_lit [6, 12, 12, 25, 40] rfl I1.out.src rfl (by simp) (by simp)).mono ?_; rintro e w2 ⟨y, rfl, hy, hs2, hg2⟩
    have I2 := Lib.hid (I1.out.turn hs2 hg2)
    have hy2 : 6 ≤ y ∧ y ≤ 40 := by simp at hy; omega
    clear I1 hs2 hg2 hy
    go_wp2_with fail
    refine (l01Next_any n b y _ (by omega) I2.out.src).mono ?_; rintro e w3 ⟨z, rfl, hz, hs3, hg3⟩
    have I3 := Lib.hid (I2.out.turn hs3 hg3)
    have hz2 : 0 ≤ z ∧ z ≤ 40 := by omega
    clear I2 hs3 hg3 hz
    go_wp2_with fail
    go_ret
    exact ⟨_, rfl, by omega, I3.out.src, I3.out.grown⟩
theorem DrawLineOf_any (a : Option Addr) (len cap : Nat) (w : World) (hl : len ≤ 1152921504606846976) (hb : Bytes w w.heap.size a len) :
    Calls Tryz.prog 17 #[.slice a len cap] w fun e w' => RetI e ∧ Below w.heap.size w w' := by
  have HF := Lib.hid (l01From_any a len cap w hl hb)
  clear hb
  go_enter Tryz.func17, Tryz.ntmps17
  go_wp2_with fail
  refine (HF.out).mono ?_; rintro e w1 ⟨b, rfl, hs1, hb1⟩
  have HS1 := Lib.hid hs1
  have HB1 := Lib.hid hb1
  clear hs1 hb1 HF
  go_wp2_with fail
  refine (l06DrawLevel_any _ b w1 HS1.out).mono ?_; rintro e w2 ⟨y, rfl, hy, hs2, hg2⟩
  have HB2 := Lib.hid (grown_below HB1.out HS1.out hg2)
  go_wp2_with fail
  go_ret
  exact ⟨⟨_, rfl⟩, HB2.out⟩
def RetIII (e : Ending) : Prop := ∃ x y z : Int, e = .returned (.tuple #[(.int .i64 x), (.int .i64 y), (.int .i64 z)])
def RetIIb (e : Ending) : Prop := ∃ x y : Int, e = .returned (.tuple #[(.int .i64 x), (.int .i64 y)]) ∧ I64 y
set_option maxRecDepth 100000 in
theorem DrawNormalPair_any (a : Option Addr) (len cap : Nat) (w : World) (hl : len ≤ 1152921504606846976) (hb : Bytes w w.heap.size a len) :
    Calls Tryz.prog 14 #[.slice a len cap] w fun e w' => RetIII e ∧ Below w.heap.size w w' := by
  have HF := Lib.hid (l01From_any a len cap w hl hb)
  clear hb
  go_enter Tryz.func14, Tryz.ntmps14
  go_wp2_with fail
  refine (HF.out).mono ?_; rintro e w1 ⟨b, rfl, hs1, hb1⟩
  have I1 := Lib.hid (InS.start hs1)
  have HB1 := Lib.hid hb1
  have hge : w.heap.size ≤ b := hs1.ge
  clear hs1 hb1 HF
  generalize hnn : w.heap.size = n at *
  have HN := Lib.hid hnn
  clear hnn
  go_wp2_with fail
  refine (l06DrawLevel_any _ b _ I1.out.src).mono ?_; rintro e w2 ⟨x, rfl, -, hs2, hg2⟩
  have I2 := Lib.hid (I1.out.turn hs2 hg2)
  clear I1 hs2 hg2
  go_wp2_with fail
  refine (l01Next_any _ b 80 _ (by omega) I2.out.src).mono ?_; rintro e w3 ⟨y, rfl, hy, hs3, hg3⟩
  have I3 := Lib.hid (I2.out.turn hs3 hg3)
  have hy2 : 0 ≤ y ∧ y < 80 := by omega
  clear I2 hs3 hg3 hy
  go_wp2_with fail
  refine (l01Next_any _ b 80 _ (by omega) I3.out.src).mono ?_; rintro e w4 ⟨z, rfl, hz, hs4, hg4⟩
  have I4 := Lib.hid (I3.out.turn hs4 hg4)
  have hz2 : 0 ≤ z ∧ z < 80 := by omega
  clear I3 hs4 hg4 hz
  go_wp2_with fail
  refine (pick_lit [z - 20, 1000000000, 0, 1] rfl I4.out.src rfl (by simp) (by simp)).mono ?_; rintro e w5 ⟨u, rfl, -, hs5, hg5⟩
  have I5 := Lib.hid (I4.out.turn hs5 hg5)
  clear I4 hs5 hg5
  go_wp2_with fail
  refine bodyPost_ret (v := .tuple #[(.int .i64 x), (.int .i64 (y - 20)), (.int .i64 u)]) (by simp [results, Tryz.results14, go_sem]) rfl ?_
  exact ⟨⟨_, _, _, rfl⟩, by rw [HN.out]; exact HB1.out.trans (I5.out.belowN hge)⟩
set_option maxRecDepth 100000 in
theorem DrawCosetMatrix_any (a : Option Addr) (len cap : Nat) (w : World) (hl : len ≤ 1152921504606846976) (hb : Bytes w w.heap.size a len) :
    Calls Tryz.prog 8 #[.slice a len cap] w fun e w' => RetIIb e ∧ Below w.heap.size w w' := by
  have HF := Lib.hid (l01From_any a len cap w hl hb)
  clear hb
  go_enter Tryz.func8, Tryz.ntmps8
  go_wp2_with fail
  refine (HF.out).mono ?_; rintro e w1 ⟨b, rfl, hs1, hb1⟩
  have I1 := Lib.hid (InS.start hs1)
  have HB1 := Lib.hid hb1
  have hge : w.heap.size ≤ b := hs1.ge
  clear hs1 hb1 HF
  generalize hnn : w.heap.size = n at *
  have HN := Lib.hid hnn
  clear hnn
  go_wp2_with fail
  refine (l06DrawLevel_any _ b _ I1.out.src).mono ?_; rintro e w2 ⟨x, rfl, -, hs2, hg2⟩
  have I2 := Lib.hid (I1.out.turn hs2 hg2)
  clear I1 hs2 hg2
  go_wp2_with fail
  refine (pick_lit [3, 11, 30] rfl I2.out.src rfl (by simp) (by simp)).mono ?_; rintro e w3 ⟨y, rfl, hy, hs3, hg3⟩
  have I3 := Lib.hid (I2.out.turn hs3 hg3)
  have hy2 : 0 ≤ y ∧ y ≤ 1000000 := by simp at hy; omega
  clear I2 hs3 hg3 hy
  go_wp2_with fail
  refine (l01Near_any _ b y _ hy2 I3.out.src).mono ?_; rintro e w4 ⟨z, rfl, hz, hs4, hg4⟩
  have I4 := Lib.hid (I3.out.turn hs4 hg4)
  have HZ := Lib.hid (show I64 z by unfold I64; omega)
  clear I3 hs4 hg4 hz
  go_wp2_with fail
  go_ret2
  exact ⟨⟨_, _, rfl, HZ.out⟩, by rw [HN.out]; exact HB1.out.trans (I4.out.belowN hge)⟩
set_option maxRecDepth 100000 in
theorem DrawIndexOf_any (a : Option Addr) (len cap : Nat) (w : World) (hl : len ≤ 1152921504606846976) (hb : Bytes w w.heap.size a len) :
    Calls Tryz.prog 21 #[.slice a len cap] w fun e w' => RetIIb e ∧ Below w.heap.size w w' := by
  have HF := Lib.hid (l01From_any a len cap w hl hb)
  clear hb
  go_enter Tryz.func21, Tryz.ntmps21
  go_wp2_with fail
  refine (HF.out).mono ?_; rintro e w1 ⟨b, rfl, hs1, hb1⟩
  have I1 := Lib.hid (InS.start hs1)
  have HB1 := Lib.hid hb1
  have hge : w.heap.size ≤ b := hs1.ge
  clear hs1 hb1 HF
  generalize hnn : w.heap.size = n at *
  have HN := Lib.hid hnn
  clear hnn
  go_wp2_with fail
  refine (l01Near_any _ b 2 _ (by omega) I1.out.src).mono ?_; rintro e w2 ⟨x, rfl, -, hs2, hg2⟩
  have I2 := Lib.hid (I1.out.turn hs2 hg2)
  clear I1 hs2 hg2
  go_wp2_with fail
  refine (pick_lit [12, 60, 1000] rfl I2.out.src rfl (by simp) (by simp)).mono ?_; rintro e w3 ⟨y, rfl, hy, hs3, hg3⟩
  have I3 := Lib.hid (I2.out.turn hs3 hg3)
  have hy2 : 0 ≤ y ∧ y ≤ 1000000 := by simp at hy; omega
  clear I2 hs3 hg3 hy
  go_wp2_with fail
  refine (l01Near_any _ b y _ hy2 I3.out.src).mono ?_; rintro e w4 ⟨z, rfl, hz, hs4, hg4⟩
  have I4 := Lib.hid (I3.out.turn hs4 hg4)
  have HZ := Lib.hid (show I64 z by unfold I64; omega)
  clear I3 hs4 hg4 hz
  go_wp2_with fail
  go_ret2
  exact ⟨⟨_, _, rfl, HZ.out⟩, by rw [HN.out]; exact HB1.out.trans (I4.out.belowN hge)⟩
def RetIM (e : Ending) : Prop := ∃ x p q r s : Int, e = .returned (.tuple #[(.int .i64 x), (.agg #[.int .i64 p, .int .i64 q, .int .i64 r, .int .i64 s])])
set_option maxRecDepth 100000 in
theorem DrawCosetOf_any (a : Option Addr) (len cap : Nat) (w : World) (hl : len ≤ 1152921504606846976) (hb : Bytes w w.heap.size a len) :
    Calls Tryz.prog 11 #[.slice a len cap] w fun e w' => RetIM e ∧ Below w.heap.size w w' := by
  have hA : Below w.heap.size w (w.alloc (.cells #[(.int .i64 0), (.int .i64 0), (.int .i64 0), (.int .i64 0)] 25)) := (Below.refl _ w).alloc (Nat.le_refl _) _
  have HF := Lib.hid (l01From_any a len cap _ hl (hb.after hA))
  have HA := Lib.hid hA
  clear hb hA
  go_enter Tryz.func11, Tryz.ntmps11
  go_wp2_with fail
  refine (HF.out).mono ?_; rintro e w1 ⟨b, rfl, hs1, hb1⟩
  have HB1 := Lib.hid (bfin HA.out hb1)
  have B1 := Lib.hid ((Bm.new (w := w) (p := 0) (q := 0) (s := 0) (u := 0)).below hb1)
  have I1 := Lib.hid (InS.start hs1)
  have hbn : w.heap.size + 1 ≤ b := by have := hs1.ge; simpa using this
  clear HF HA hs1 hb1
  go_wp2_with fail
  refine (l06DrawLevel_any _ b _ I1.out.src).mono ?_; rintro e w2 ⟨x, rfl, -, hs2, hg2⟩
  have I2 := Lib.hid (I1.out.turn hs2 hg2)
  clear hs2 hg2 I1
  go_wp2_with fail
  refine (l01Spoil_any _ b _ I2.out.src).mono ?_; rintro e w3 ⟨⟨p, q, r, s, rfl⟩, hs3, hg3⟩
  have I3 := Lib.hid (I2.out.turn hs3 hg3)
  have B3 := Lib.hid (B1.out.grown I3.out (by omega))
  have HB3 := Lib.hid (HB1.out.trans (I3.out.belowN (m := w.heap.size) (by omega)))
  clear hs3 hg3 I2 B1 HB1
  obtain ⟨⟨c0, c1, c2, c3⟩, ⟨f0, f1, f2, f3⟩, hl3⟩ := B3.out.open_
  go_wp2_with fail
  refine bodyPost_ret (v := .tuple #[(.int .i64 x), (.agg #[.int .i64 p, .int .i64 q, .int .i64 r, .int .i64 s])]) (by simp [results, Tryz.results11, go_sem, set4_0 B3.out, set4_1 B3.out, set4_2 B3.out, set4_3 B3.out] <;> rfl) rfl ?_
  exact ⟨⟨_, _, _, _, _, rfl⟩, below_set4 HB3.out (Nat.le_refl _)⟩
theorem c4drew {w : World} {g : Nat} {p q r s : Int} (h : w.cell? ⟨g, 0, none⟩ = some (.int .i64 p) ∧ w.cell? ⟨g, 1, none⟩ = some (.int .i64 q) ∧ w.cell? ⟨g, 2, none⟩ = some (.int .i64 r) ∧ w.cell? ⟨g, 3, none⟩ = some (.int .i64 s)) : w.drew.cell? ⟨g, 0, none⟩ = some (.int .i64 p) ∧ w.drew.cell? ⟨g, 1, none⟩ = some (.int .i64 q) ∧ w.drew.cell? ⟨g, 2, none⟩ = some (.int .i64 r) ∧ w.drew.cell? ⟨g, 3, none⟩ = some (.int .i64 s) := h
/-- The ending of a draw of a family, a level and a matrix. -/
def RetIIM (e : Ending) : Prop := ∃ x y p q r s : Int, e = .returned (.tuple #[(.int .i64 x), (.int .i64 y), (.agg #[.int .i64 p, .int .i64 q, .int .i64 r, .int .i64 s])])
theorem famOk {n : Int} (h : inB n 1 6 = true) {k : Int} (hk : k = 1 ∨ k = n) : EM 1 0 n 1 ∧ EM 1 k 0 1 ∧ EM 1 0 (-2 * n) 1 := by
  obtain ⟨h1, h2⟩ := inB_iff.1 h
  refine ⟨⟨by omega, by omega, by omega, by omega⟩, ⟨by omega, by omega, by omega, by omega⟩, ⟨by omega, by omega, by omega, by omega⟩⟩
set_option maxRecDepth 1000000 in
set_option maxHeartbeats 4000000 in
theorem DrawIsMember_any (a : Option Addr) (len cap : Nat) (w : World) (hl : len ≤ 1152921504606846976) (hb : Bytes w w.heap.size a len) :
    Calls Tryz.prog 5 #[.slice a len cap] w fun e w' => RetIIM e ∧ Below w.heap.size w w' := by
  have hA : Below w.heap.size w (w.alloc (.cells #[(.int .i64 0), (.int .i64 0), (.int .i64 0), (.int .i64 0)] 25)) := (Below.refl _ w).alloc (Nat.le_refl _) _
  have HF := Lib.hid (l01From_any a len cap _ hl (hb.after hA))
  have HA := Lib.hid hA
  clear hb hA
  go_enter Tryz.func5, Tryz.ntmps5
  go_wp2_with fail
  refine (HF.out).mono ?_; rintro e w1 ⟨b, rfl, hs1, hb1⟩
  have HB1 := Lib.hid (bfin HA.out hb1)
  have B1 := Lib.hid ((Bm.new (w := w) (p := 0) (q := 0) (s := 0) (u := 0)).below hb1)
  have I1 := Lib.hid (InS.start hs1)
  have hbn : w.heap.size + 1 ≤ b := by have := hs1.ge; simpa using this
  have hbw : b < w1.heap.size := hs1.lt
  generalize hnn : (w.alloc (.cells #[(.int .i64 0), (.int .i64 0), (.int .i64 0), (.int .i64 0)] 25)).heap.size = nn at *
  clear HF HA hs1 hb1 hnn
  go_wp2_with fail
  refine (l01Near_any _ b 1000000 _ (by omega) I1.out.src).mono ?_; rintro e w2 ⟨x, rfl, hx, hs2, hg2⟩
  have I2 := Lib.hid (I1.out.turn hs2 hg2)
  clear hs2 hg2
  go_wp2_with fail
  refine (pick_lit [1, 2, 2, 3, 4, 5, 6, x] rfl I2.out.src rfl (by simp) (by simp)).mono ?_; rintro e w3 ⟨n, rfl, hn, hs3, hg3⟩
  have I3 := Lib.hid (I2.out.turn hs3 hg3)
  have hn2 : -4611686018427387904 ≤ n ∧ n ≤ 1099511627776 := by simp at hn; omega
  clear hs3 hg3 I2 hn hx
  go_wp2_with fail
  refine (l01Spoil_any _ b _ I3.out.src).mono ?_; rintro e w4 ⟨⟨p, q, r, s, rfl⟩, hs4, hg4⟩
  have I4 := Lib.hid ((I3.out.turn hs4 hg4).alloc (.cells #[(.int .i64 p), (.int .i64 q), (.int .i64 r), (.int .i64 s)] 25))
  have M4 := Lib.hid (Bm.new (w := w4) (p := p) (q := q) (s := r) (u := s))
  have h14 : w1.heap.size ≤ w4.heap.size := (I3.out.turn hs4 hg4).size
  clear hs4 hg4 I3
  have HIN := Lib.hid (fun W => l01In_any n 1 6 W)
  go_upto_region 4 with (fail)
  generalize w4.heap.size = g at *
  go_cut [25] from 19 to 25 (fun s25 wx => ∃ B : Bool, s25 = .bool B ∧ Hid (B = true → inB n 1 6 = true) ∧ Hid (InS nn b w1 wx) ∧ Hid (Bm wx g p q r s))
  case first =>
    go_wp2_with fail
    refine (l01Next_any _ b 2 _ (by omega) I4.out.src).mono ?_; rintro e w5 ⟨y, rfl, -, hs5, hg5⟩
    have I5 := Lib.hid (I4.out.turn hs5 hg5)
    have M5 := Lib.hid (M4.out.turn I4.out h14 hg5)
    clear hs5 hg5 I4 M4
    by_cases hy : y = 0
    · have hy' : (y == 0) = true := by simpa using hy
      clear hy
      cases hB : inB n 1 6
      · rw [hB] at HIN
        have HBN := Lib.hid hB
        clear hB
        go_wp2_with fail
        refine (HIN.out _).mono ?_; rintro e w' ⟨rfl, rfl⟩
        go_wp2_with fail
        go_meet
        exact ⟨false, rfl, Lib.hid (fun h => by cases h), I5, M5⟩
      · rw [hB] at HIN
        have HBN := Lib.hid hB
        clear hB
        go_wp2_with fail
        refine (HIN.out _).mono ?_; rintro e w' ⟨rfl, rfl⟩
        go_wp2_with fail
        go_meet
        exact ⟨true, rfl, Lib.hid (fun _ => HBN.out), I5, M5⟩
    · have hy' : (y == 0) = false := by simpa using hy
      clear hy
      go_wp2_with fail
      go_meet
      exact ⟨false, rfl, Lib.hid (fun h => by cases h), I5, M5⟩
  case rest =>
    obtain ⟨B, rfl, HBN, I5, M5⟩ := hcut
    clear I4 M4 HIN I1
    have hgw : w1.heap.size ≤ g := h14
    go_upto_if 25 with (fail)
    go_cut [8, 9, 25] from 26 to 42 (fun _ _ _ wx => ∃ p q r s : Int, Hid (Bm wx g p q r s) ∧ Hid (InS nn b w1 wx))
    case first =>
      cases B
      · go_wp2_with fail
        go_meet
        exact ⟨p, q, r, s, M5, I5⟩
      · obtain ⟨hn0, hn1⟩ := inB_iff.1 (HBN.out rfl)
        go_wp2_with fail
        refine (pick_lit [1, n, n] rfl I5.out.src rfl (by simp) (by simp)).mono ?_; rintro e w6 ⟨k, rfl, hk, hs6, hg6⟩
        have I6 := Lib.hid (I5.out.turn hs6 hg6)
        have M6 := Lib.hid (M5.out.turn I5.out h14 hg6)
        have hk2 : 1 ≤ k ∧ k ≤ 6 := by simp at hk; omega
        clear hs6 hg6 I5 M5 hk
        go_wp2_with fail
        refine (l01Product_any _ _ (by simp) (row3A (w := w6) ⟨by omega, by omega, by omega, by omega⟩ ⟨by omega, by omega, by omega, by omega⟩ ⟨by omega, by omega, by omega, by omega⟩)).mono ?_; rintro e w7 ⟨⟨x1, x2, x3, x4, c, rfl, -⟩, hb7⟩
        have I7 := Lib.hid ((I6.out.alloc _).below hb7)
        have M7 := Lib.hid ((M6.out.alloc _).below hb7)
        clear hb7 I6 M6 hk2
        obtain ⟨⟨c0, c1, c2, c3⟩, ⟨f0, f1, f2, f3⟩, hl3⟩ := M7.out.open_
        go_wp2_with fail
        go_meet
        exact ⟨x1, x2, x3, x4, Lib.hid ((M7.out.set x1 x2 x3 x4).alloc _), Lib.hid ((I7.out.set4 _ _ _ _ hgw).alloc _)⟩
    case rest =>
      obtain ⟨p1, q1, r1, s1, M6, I6⟩ := hcut
      clear I5 M5
      have B6 := Lib.hid (B1.out.grown I6.out (by omega))
      obtain ⟨⟨c0, c1, c2, c3⟩, -, hl3⟩ := M6.out.open_
      have k6 := Lib.hid (Blk4.open_ M6.out).1
      go_upto_region 7 with (fail)
      go_region_held3 (fun w' => w'.cell? ⟨g, 0, none⟩ = some (.int .i64 p1) ∧ w'.cell? ⟨g, 1, none⟩ = some (.int .i64 q1) ∧ w'.cell? ⟨g, 2, none⟩ = some (.int .i64 r1) ∧ w'.cell? ⟨g, 3, none⟩ = some (.int .i64 s1)) (first | with_reducible exact k7.out | with_reducible exact k6.out | with_reducible exact c4drew k6.out | with_reducible exact c4drew k7.out | with_reducible exact (Blk4.open_ (M7.out.far _ _ _ _ (by omega))).1 | go_keep) (first | (go_at_call 29; (first | ((with_reducible refine (l01Near_any _ b 2 _ (by omega) I6.out.src).mono ?_); rintro e w7 ⟨fam, rfl, -, hs7, hg7⟩; have hg7x := Lib.hid hg7; clear hg7) | ((with_reducible refine (l01Near_any _ b 2 _ (by omega) I6.out.drew.src).mono ?_); rintro e w7 ⟨fam, rfl, -, hs7, hg7⟩; have hg7x := Lib.hid (undrew hg7); clear hg7)); have I7 := Lib.hid (I6.out.turn hs7 hg7x.out); have M7 := Lib.hid (M6.out.turn I6.out hgw hg7x.out); have k7 := Lib.hid (Blk4.open_ M7.out).1; have B7 := Lib.hid (B1.out.grown I7.out (by omega)); have y7 := Blk4.open_ B7.out; obtain ⟨⟨d0, d1, d2, d3⟩, ⟨e0, e1, e2, e3⟩, hl7⟩ := y7; clear hs7 hg7x))
      all_goals
        have HBF := Lib.hid (HB1.out.trans (I7.out.belowN (m := w.heap.size) (by omega)))
        clear k6 k7 M6 M7 I6
        go_wp2_with fail
        refine bodyPost_ret (v := .tuple #[(.int .i64 fam), (.int .i64 n), (.agg #[.int .i64 p1, .int .i64 q1, .int .i64 r1, .int .i64 s1])]) (by simp [results, Tryz.results5, go_sem, set4_0 B7.out, set4_1 B7.out, set4_2 B7.out, set4_3 B7.out] <;> rfl) rfl ?_
        exact ⟨⟨_, _, _, _, _, _, rfl⟩, below_set4 HBF.out (Nat.le_refl _)⟩
end Go.Proofs.YtjkemnnkgihefaaGreat
