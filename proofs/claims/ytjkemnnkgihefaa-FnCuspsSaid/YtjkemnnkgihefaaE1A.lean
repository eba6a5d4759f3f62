/- Draws of levels. -/
import Derived.Test.YtjkemnnkgihefaaDa
namespace Go.Proofs.Ytjkemnnkgihefaa
open Go.RowKit
theorem l06DrawLevel_any (n b : Nat) (w : World) (hs : Src w n b) :
    Calls Try.prog 22 #[.pointer (some ⟨b, 0, none⟩)] w fun e w' => ∃ x : Int, e = .returned (.int .i64 x) ∧ (-1 ≤ x ∧ x ≤ 1099511627776) ∧ Src w' n b ∧ w.grownBy w' (some b) := by
  have I0 := Lib.hid (InS.start hs)
  clear hs
  go_enter Try.func22, Try.ntmps22
  go_wp2_with fail
  refine (l01Next_any n b 30 _ (by omega) I0.out.src).mono ?_; rintro e w1 ⟨x, rfl, -, hs1, hg1⟩
  have I1 := Lib.hid (I0.out.turn hs1 hg1)
  clear I0 hs1 hg1
  by_cases h0 : x = 0
  · subst h0
    go_wp2_with fail
    refine (pick_lit [0, 61, -1, 1099511627776] rfl I1.out.src rfl (by simp) (by simp)).mono ?_; rintro e w2 ⟨y, rfl, hy, hs2, hg2⟩
    have I2 := Lib.hid (I1.out.turn hs2 hg2)
    have hy2 : -1 ≤ y ∧ y ≤ 1099511627776 := by simp at hy; omega
    clear I1 hs2 hg2 hy
    go_wp2_with fail
    go_ret
    exact ⟨y, rfl, hy2, I2.out.src, I2.out.grown⟩
  · have h0' : (x == 0) = false := by simpa using h0
    go_wp2_with fail
    refine (pick_lit [6, 12, 12, 25, 40] rfl I1.out.src rfl (by simp) (by simp)).mono ?_; rintro e w2 ⟨y, rfl, hy, hs2, hg2⟩
    have I2 := Lib.hid (I1.out.turn hs2 hg2)
    have hy2 : 6 ≤ y ∧ y ≤ 40 := by simp at hy; omega
    clear I1 hs2 hg2 hy
    go_wp2_with fail
    refine (l01Next_any n b y _ (by omega) I2.out.src).mono ?_; rintro e w3 ⟨z, rfl, hz, hs3, hg3⟩
    have I3 := Lib.hid (I2.out.turn hs3 hg3)
    have hz2 : 0 ≤ z ∧ z ≤ 40 := by omega
    clear I2 hs3 hg3 hz
    go_wp2_with fail
    go_ret
    exact ⟨_, rfl, by omega, I3.out.src, I3.out.grown⟩
theorem DrawCuspsOf_any (a : Option Addr) (len cap : Nat) (w : World) (hl : len ≤ 1152921504606846976) (hb : Bytes w w.heap.size a len) :
    Calls Try.prog 8 #[.slice a len cap] w fun e w' => RetI e ∧ Below w.heap.size w w' := by
  have HF := Lib.hid (l01From_any a len cap w hl hb)
  clear hb
  go_enter Try.func8, Try.ntmps8
  go_wp2_with fail
  refine (HF.out).mono ?_; rintro e w1 ⟨b, rfl, hs1, hb1⟩
  have HS1 := Lib.hid hs1
  have HB1 := Lib.hid hb1
  clear hs1 hb1 HF
  go_wp2_with fail
  refine (l06DrawLevel_any _ b w1 HS1.out).mono ?_; rintro e w2 ⟨y, rfl, hy, hs2, hg2⟩
  have HB2 := Lib.hid (grown_below HB1.out HS1.out hg2)
  go_wp2_with fail
  go_ret
  exact ⟨⟨_, rfl⟩, HB2.out⟩
theorem DrawCountCusps_any (a : Option Addr) (len cap : Nat) (w : World) (hl : len ≤ 1152921504606846976) (hb : Bytes w w.heap.size a len) :
    Calls Try.prog 12 #[.slice a len cap] w fun e w' => RetI e ∧ Below w.heap.size w w' := by
  have HF := Lib.hid (l01From_any a len cap w hl hb)
  clear hb
  go_enter Try.func12, Try.ntmps12
  go_wp2_with fail
  refine (HF.out).mono ?_; rintro e w1 ⟨b, rfl, hs1, hb1⟩
  have I1 := Lib.hid (InS.start hs1)
  have HB1 := Lib.hid hb1
  have hge : w.heap.size ≤ b := hs1.ge
  clear hs1 hb1 HF
  generalize hnn : w.heap.size = n at *
  have HN := Lib.hid hnn
  clear hnn
  go_wp2_with fail
  refine (pick_lit [60, 1000] rfl I1.out.src rfl (by simp) (by simp)).mono ?_; rintro e w2 ⟨y, rfl, hy, hs2, hg2⟩
  have I2 := Lib.hid (I1.out.turn hs2 hg2)
  have hy2 : 0 ≤ y ∧ y ≤ 1000000 := by simp at hy; omega
  clear I1 hs2 hg2 hy
  go_wp2_with fail
  refine (l01Near_any _ b y _ hy2 I2.out.src).mono ?_; rintro e w3 ⟨z, rfl, hz, hs3, hg3⟩
  have I3 := Lib.hid (I2.out.turn hs3 hg3)
  clear I2 hs3 hg3 hz
  go_wp2_with fail
  go_ret
  exact ⟨⟨_, rfl⟩, by rw [HN.out]; exact HB1.out.trans (I3.out.belowN hge)⟩
end Go.Proofs.Ytjkemnnkgihefaa
