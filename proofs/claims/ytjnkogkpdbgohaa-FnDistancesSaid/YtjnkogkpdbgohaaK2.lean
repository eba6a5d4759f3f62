/- Contracts: continued fractions of fractions, by the program and by the model. -/
import Derived.Test.YtjnkogkpdbgohaaC72
import Derived.Test.YtjnkogkpdbgohaaNa
namespace Go.Proofs.Ytjnkogkpdbgohaa
open Go.RowKit
set_option maxRecDepth 100000 in
set_option maxHeartbeats 1000000 in
theorem l03Continued_any (P Q : Int) (w : World) (hP : E9 P) (h0 : 0 ≤ Q) (h1 : Q ≤ 1000000000) :
    Calls Try.prog 28 #[(.agg #[.int .i64 P, .int .i64 Q])] w fun e w' => ∃ v, e = .returned v ∧ w'.ownsRow w.heap.size 2 1 v (cfrac P Q).length (ints (cfrac P Q)) ∧ Below w.heap.size w w' := by
  have hlen := cfrac_len (p := P) h0 h1
  obtain ⟨P0, P1⟩ := hP
  go_enter Try.func28, Try.ntmps28
  go_wp2_with fail
  go_region
  have HO0 := Lib.hid (own_below (World.ownsRow_lit (e := 2) (size := 1) (base := w.heap.size) (w.alloc (.cells #[(.int .i64 P), (.int .i64 Q)] 25)) #[] 0 (by simp) (by simp [maxLen]) rfl) (Below.refl _ _).drew)
  have hB1 : Below w.heap.size w ((w.alloc (.cells #[(.int .i64 P), (.int .i64 Q)] 25)).alloc (.cells #[] 2)).drew := by go_grown
  generalize ((w.alloc (.cells #[(.int .i64 P), (.int .i64 Q)] 25)).alloc (.cells #[] 2)).drew = w1 at *
  go_wp2_with fail
  go_loopw [3, 4, 5, 6, 7] (fun v u1 u2 _ _ wr => ∃ (D : List Int) (x y : Int), u1 = (.int .i64 x) ∧ u2 = (.int .i64 y) ∧ -1000000000 ≤ x ∧ x ≤ 1000000000 ∧ 0 ≤ y ∧ y ≤ 1000000000 ∧ Hid (cfrac P Q = D ++ cfrac x y) ∧ Hid (wr.ownsRow w.heap.size 2 1 v D.length (ints D)) ∧ Below w.heap.size w wr) (fun _ _ u2 _ _ _ => (intOf u2).toNat)
  case atStart => exact ⟨[], P, Q, rfl, rfl, P0, P1, h0, h1, Lib.hid rfl, Lib.hid (by simpa [ints] using own_base HO0.out (by simp)), hB1⟩
  case round =>
    obtain ⟨D, x, y, rfl, rfl, x0, x1, y0, y1, HC, HO, hb⟩ := hrel
    have hsz := hb.size
    by_cases hy : y = 0
    · subst hy
      have HE := Lib.hid (show cfrac P Q = D by rw [HC.out, cfrac_zero, List.append_nil])
      go_wp2_with fail
      go_ret
      exact ⟨_, rfl, by rw [HE.out]; exact HO.out, hb⟩
    · have hy0 : 0 < y := by omega
      have HC2 := HC.out
      rw [cfrac_step hy0] at HC2
      have e0 := Int.mul_ediv_add_emod x y
      have e1 := Int.emod_nonneg x hy
      have e2 := Int.emod_lt_of_pos x hy0
      have hD : D.length ≤ 60 := by have := congrArg List.length HC2; simp at this; omega
      have HF := Lib.hid (fun W => l01Floor_any x y W (by omega) (by omega) hy0 (by omega))
      rw [Int.mul_comm] at e0
      have HC3 := Lib.hid HC2
      clear HC2 HC
      generalize x / y = n at *
      generalize x % y = r at *
      have HR := Lib.hid (show x - n * y = r by omega)
      go_wp2_with fail
      refine (HF.out _).mono ?_; rintro e w' ⟨rfl, rfl⟩
      go_wp2_with (at_builtin; refine app_one elI2 rfl _ _ rfl rfl rfl (by simp) (HO.out) (hb) rfl (by intro u hu; simp at hu; first | (subst hu; rfl) | (rcases hu with rfl | rfl <;> rfl) | (rcases hu with rfl | rfl | rfl <;> rfl) | (rcases hu with rfl | rfl | rfl | rfl <;> rfl)) (hsz) (by omega) ?_; intro v' w3 hown3 hb3 hg3; have HO3 := Lib.hid hown3; clear hown3 hg3)
      go_wp2_with fail
      go_roundw
      case rel => exact ⟨D ++ [n], y, r, rfl, by rw [HR.out], by omega, by omega, by omega, by omega, Lib.hid (by rw [HC3.out]; simp), Lib.hid (by simpa [ints] using HO3.out), hb3⟩
      case measure => simp [intOf]; omega
def cofRes (P Q : Int) : List Int × Int := if isFrac P Q = true then (if Q = 0 then ([], 5) else (cfrac P Q, 0)) else ([], 1)
theorem cofRes_len (P Q : Int) : (cofRes P Q).1.length ≤ 60 := by
  unfold cofRes
  split
  · rename_i h
    split
    · simp
    · have := isFrac_iff.1 h
      exact cfrac_len this.2.1.1 this.2.1.2
  · simp
theorem ContinuedOf_any (P Q : Int) (w : World) :
    Calls Try.prog 8 #[(.agg #[.int .i64 P, .int .i64 Q])] w fun e w' => ∃ v, e = .returned (.tuple #[v, (.int .i64 ((cofRes P Q).2))]) ∧ w'.ownsRow w.heap.size 2 1 v (cofRes P Q).1.length (ints (cofRes P Q).1) ∧ Below w.heap.size w w' := by
  have HF := Lib.hid (fun W => IsFraction_any P Q W)
  cases hf : isFrac P Q
  · rw [show cofRes P Q = ([], 1) by simp [cofRes, hf]]
    rw [hf] at HF
    go_enter Try.func8, Try.ntmps8
    go_wp2_with fail
    refine (HF.out _).mono ?_; rintro e w1 ⟨rfl, hb1⟩
    obtain ⟨hc1, hf1⟩ := bcell hb1
    have hB1 : Below w.heap.size w w1 := bfin (by go_grown) hb1
    go_wp2_with fail
    go_ret2
    exact ⟨_, rfl, World.ownsRow_nil _ _ _ _, by go_grown⟩
  rw [hf] at HF
  by_cases hq : Q = 0
  · subst hq
    rw [show cofRes P 0 = ([], 5) by simp [cofRes, hf]]
    go_enter Try.func8, Try.ntmps8
    go_wp2_with fail
    refine (HF.out _).mono ?_; rintro e w1 ⟨rfl, hb1⟩
    obtain ⟨hc1, hf1⟩ := bcell hb1
    have hz1_0 : w.heap.size < w1.heap.size := by have := hb1.size; (try simp at this); omega
    have hB1 : Below w.heap.size w w1 := bfin (by go_grown) hb1
    go_wp2_with fail
    go_ret2
    exact ⟨_, rfl, World.ownsRow_nil _ _ _ _, by go_grown⟩
  · rw [show cofRes P Q = (cfrac P Q, 0) by simp [cofRes, hf, hq]]
    have hq' : (Q == 0) = false := by simpa using hq
    have hI := isFrac_iff.1 hf
    have HC := Lib.hid (fun W => continued_any P Q W ⟨hI.1.1, hI.1.2⟩ hI.2.1.1 hI.2.1.2)
    clear hI hf
    go_enter Try.func8, Try.ntmps8
    go_wp2_with fail
    refine (HF.out _).mono ?_; rintro e w1 ⟨rfl, hb1⟩
    obtain ⟨hc1, hf1⟩ := bcell hb1
    have hz1_0 : w.heap.size < w1.heap.size := by have := hb1.size; (try simp at this); omega
    have hB1 : Below w.heap.size w w1 := bfin (by go_grown) hb1
    go_wp2_with fail
    refine (HC.out _).mono ?_; rintro e w2 ⟨v, rfl, ho, hb2⟩
    have HO := Lib.hid (own_base ho hB1.size)
    have hB2 := bfin hB1 (hb2.mono (Nat.le_refl _))
    clear ho
    go_wp2_with fail
    go_ret2
    exact ⟨_, rfl, HO.out, hB2⟩
theorem sContinuedOf_any (P Q : Int) (w : World) :
    Calls Try.prog 9 #[(.agg #[.int .i64 P, .int .i64 Q])] w fun e w' => ∃ v, e = .returned (.tuple #[v, (.int .i64 ((cofRes P Q).2))]) ∧ w'.ownsRow w.heap.size 2 1 v (cofRes P Q).1.length (ints (cofRes P Q).1) ∧ Below w.heap.size w w' := by
  have HF := Lib.hid (fun W => l01Fraction_any P Q W)
  cases hf : isFrac P Q
  · rw [show cofRes P Q = ([], 1) by simp [cofRes, hf]]
    rw [hf] at HF
    go_enter Try.func9, Try.ntmps9
    go_wp2_with fail
    refine (HF.out _).mono ?_; rintro e w1 ⟨rfl, hb1⟩
    obtain ⟨hc1, hf1⟩ := bcell hb1
    have hB1 : Below w.heap.size w w1 := bfin (by go_grown) hb1
    go_wp2_with fail
    go_ret2
    exact ⟨_, rfl, World.ownsRow_nil _ _ _ _, by go_grown⟩
  rw [hf] at HF
  by_cases hq : Q = 0
  · subst hq
    rw [show cofRes P 0 = ([], 5) by simp [cofRes, hf]]
    go_enter Try.func9, Try.ntmps9
    go_wp2_with fail
    refine (HF.out _).mono ?_; rintro e w1 ⟨rfl, hb1⟩
    obtain ⟨hc1, hf1⟩ := bcell hb1
    have hz1_0 : w.heap.size < w1.heap.size := by have := hb1.size; (try simp at this); omega
    have hB1 : Below w.heap.size w w1 := bfin (by go_grown) hb1
    go_wp2_with fail
    go_ret2
    exact ⟨_, rfl, World.ownsRow_nil _ _ _ _, by go_grown⟩
  · rw [show cofRes P Q = (cfrac P Q, 0) by simp [cofRes, hf, hq]]
    have hq' : (Q == 0) = false := by simpa using hq
    have hI := isFrac_iff.1 hf
    have HC := Lib.hid (fun W => l03Continued_any P Q W ⟨hI.1.1, hI.1.2⟩ hI.2.1.1 hI.2.1.2)
    clear hI hf
    go_enter Try.func9, Try.ntmps9
    go_wp2_with fail
    refine (HF.out _).mono ?_; rintro e w1 ⟨rfl, hb1⟩
    obtain ⟨hc1, hf1⟩ := bcell hb1
    have hz1_0 : w.heap.size < w1.heap.size := by have := hb1.size; (try simp at this); omega
    have hB1 : Below w.heap.size w w1 := bfin (by go_grown) hb1
    go_wp2_with fail
    refine (HC.out _).mono ?_; rintro e w2 ⟨v, rfl, ho, hb2⟩
    have HO := Lib.hid (own_base ho hB1.size)
    have hB2 := bfin hB1 (hb2.mono (Nat.le_refl _))
    clear ho
    go_wp2_with fail
    go_ret2
    exact ⟨_, rfl, HO.out, hB2⟩
end Go.Proofs.Ytjnkogkpdbgohaa
