/- The law ClassesOfTrace. -/
import Derived.Test.YtencfmipplgnkaaP11
import Derived.Test.YtencfmipplgnkaaP12
import Derived.Test.YtencfmipplgnkaaR2
namespace Go.Proofs.Ytencfmipplgnkaa
open Go.RowKit
theorem coRes_len (t : Int) : (coRes t).1.length ≤ 1000000 := by
  unfold coRes
  split
  · rename_i h
    have h60 : t ≤ 60 := by simp [inB] at h; omega
    have h3 : 3 ≤ t := by simp [inB] at h; omega
    have h1 := firstL_len (enumL t)
    have h2 := rowA_len (t := t) (by omega) h60 (t - 1).toNat
    have e : rowA t (t - 1).toNat = enumL t := rfl
    rw [e] at h2
    simp only
    omega
  · simp
set_option maxRecDepth 100000 in
set_option maxHeartbeats 2000000 in
theorem lawFnExactClassesOfTrace (d : Int) (_ : I64 d) (w : World) :
    Calls Try.prog 9 #[(.int .i64 d)] w fun e w' => e = .returned (.bool true) ∧ Below w.heap.size w w' := by
  have HS := Lib.hid (sClassesOfTrace_any d)
  have HI := Lib.hid (ClassesOfTrace_any d)
  have HN := Lib.hid (flat4_len (coRes d).1)
  have hn := coRes_len d
  generalize coRes d = R at HS HI HN hn
  obtain ⟨l, c⟩ := R
  simp only at HS HI HN hn
  generalize l.length = n at *
  generalize flat4 l = xs at *
  go_enter Try.func9, Try.ntmps9
  have hn2 : (c != c) = false := by simp
  have hml : n ≤ maxLen := by unfold maxLen; omega
  go_wp2_with fail
  refine (HS.out _).mono ?_; rintro e w1 ⟨v0, rfl, ho0, hb1⟩
  obtain ⟨A0, cap0, rfl, -, -, hat0⟩ := own_view ho0
  have hu0 := Lib.hid (own_under ho0)
  have R0 := Lib.hid hat0
  clear ho0 hat0
  go_wp2_with fail
  refine (HI.out _).mono ?_; rintro e w2 ⟨v1, rfl, ho1, hb2⟩
  obtain ⟨A1, cap1, rfl, -, -, hat1⟩ := own_view ho1
  have O1 := Lib.hid ho1
  have R1 := Lib.hid hat1
  clear ho1 hat1
  have R0' := Lib.hid (R0.out.below hb2)
  go_wp2_with fail
  refine (eqMatrixS_same A1 A0 n cap1 cap0 _ _ xs w2 HN.out hml R1.out R0'.out).mono ?_; rintro e w3 ⟨rfl, hb3⟩
  have O3 := Lib.hid (own_below O1.out hb3)
  have R03 := Lib.hid (R0'.out.below hb3)
  have hB2 := hb1.trans (hb2.mono hb1.size)
  have hB3 := hB2.trans (hb3.mono hB2.size)
  have hN := HN.out
  have M := Lib.hid (markMatrixS_any (.slice A1 n cap1) n w1.heap.size 40 xs 1 w3 hN (by omega) (by omega) O3.out)
  clear hN
  go_wp2_with fail
  refine (M.out).mono ?_; rintro e w4 ⟨rfl, ho4, hg4⟩
  have hB4 := below_mark hB3 O3.out hg4 hb1.size
  have R04 := Lib.hid (R03.out.far O3.out hg4 hu0.out)
  have O4 := Lib.hid ho4
  clear ho4 hg4 M
  have hm0 : ¬ ((1 : Int) + ((n : Nat) : Int) * 4 < 0) := by omega
  have hm1 : ((1 : Int) + ((n : Nat) : Int) * 4 != 1 + ((n : Nat) : Int) * 4) = false := by simp
  go_wp2_with fail
  refine (heldMatrixS_any A1 n cap1 _ 1 w4 hml (by omega) (by omega) (own_at O4.out)).mono ?_; rintro e w5 ⟨rfl, hb5⟩
  have hB5 := hB4.trans (hb5.mono hB4.size)
  have O5 := Lib.hid (own_below O4.out hb5)
  have R05 := Lib.hid (R04.out.below hb5)
  go_wp2_with fail
  refine (HI.out _).mono ?_; rintro e w6 ⟨v2, rfl, ho6, hb6⟩
  obtain ⟨A2, cap2, rfl, -, -, hat6⟩ := own_view ho6
  have R6 := Lib.hid hat6
  clear ho6 hat6
  have hB6 := hB5.trans (hb6.mono hB5.size)
  have O6 := Lib.hid (own_below O5.out hb6)
  have R06 := Lib.hid (R05.out.below hb6)
  go_wp2_with fail
  refine (eqMatrixS_same A2 A0 n cap2 cap0 _ _ xs w6 HN.out hml R6.out R06.out).mono ?_; rintro e w7 ⟨rfl, hb7⟩
  have hB7 := hB6.trans (hb7.mono hB6.size)
  have O7 := Lib.hid (own_below O6.out hb7)
  go_wp2_with fail
  refine (heldMatrixS_any A1 n cap1 _ 1 w7 hml (by omega) (by omega) (own_at O7.out)).mono ?_; rintro e w8 ⟨rfl, hb8⟩
  have hB8 := hB7.trans (hb8.mono hB7.size)
  go_wp2_with fail
  go_ret
  exact ⟨rfl, hB8⟩
end Go.Proofs.Ytencfmipplgnkaa
