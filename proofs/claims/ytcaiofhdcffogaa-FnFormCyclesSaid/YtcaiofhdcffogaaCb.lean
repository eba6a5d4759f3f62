/- Contracts: discriminants, values, and forms made by matrices. -/
import Derived.Test.YtcaiofhdcffogaaCa
import Derived.Test.YtcaiofhdcffogaaNa
namespace Go.Proofs.Ytcaiofhdcffogaa
open Go.RowKit

theorem disc_any (a b c : Int) (w : World) (h : Small a b c) :
    Calls Try.prog 39 #[(.agg #[.int .i64 a, .int .i64 b, .int .i64 c])] w fun e w' => e = .returned (.int .i64 (b * b - 4 * a * c)) ∧ Below w.heap.size w w' := by
  obtain ⟨a0, a1, b0, b1, c0, c1⟩ := h
  have hb := mul_bd b0 b1 b0 b1
  have hc := mul_bd (a := 4 * a) (b := c) (A := 4000000) (B := 1000000) (by omega) (by omega) c0 c1
  obtain ⟨hb0, hb1⟩ := hb
  obtain ⟨hc0, hc1⟩ := hc
  go_enter Try.func39, Try.ntmps39
  go_wp2
  go_ret
  exact ⟨rfl, by go_grown⟩
theorem l05Disc_any (a b c : Int) (w : World) (h : Small a b c) :
    Calls Try.prog 42 #[(.agg #[.int .i64 a, .int .i64 b, .int .i64 c])] w fun e w' => e = .returned (.int .i64 (b * b - 4 * a * c)) ∧ Below w.heap.size w w' := by
  obtain ⟨a0, a1, b0, b1, c0, c1⟩ := h
  have hb := mul_bd b0 b1 b0 b1
  have hc := mul_bd (a := 4 * a) (b := c) (A := 4000000) (B := 1000000) (by omega) (by omega) c0 c1
  obtain ⟨hb0, hb1⟩ := hb
  obtain ⟨hc0, hc1⟩ := hc
  go_enter Try.func42, Try.ntmps42
  go_wp2
  go_ret
  exact ⟨rfl, by go_grown⟩
theorem at_any (a b c x y : Int) (w : World) (h : Small a b c) (x0 : -1700000 ≤ x) (x1 : x ≤ 1700000) (y0 : -1700000 ≤ y) (y1 : y ≤ 1700000) :
    Calls Try.prog 95 #[(.agg #[.int .i64 a, .int .i64 b, .int .i64 c]), (.int .i64 x), (.int .i64 y)] w fun e w' => e = .returned (.int .i64 (formAt a b c x y)) ∧ Below w.heap.size w w' := by
  obtain ⟨a0, a1, b0, b1, c0, c1⟩ := h
  obtain ⟨p0, p1⟩ := mul_bd a0 a1 x0 x1
  obtain ⟨p2, p3⟩ := mul_bd p0 p1 x0 x1
  obtain ⟨q0, q1⟩ := mul_bd b0 b1 x0 x1
  obtain ⟨q2, q3⟩ := mul_bd q0 q1 y0 y1
  obtain ⟨r0, r1⟩ := mul_bd c0 c1 y0 y1
  obtain ⟨r2, r3⟩ := mul_bd r0 r1 y0 y1
  go_enter Try.func95, Try.ntmps95
  go_wp2
  go_ret
  exact ⟨rfl, by go_grown⟩
theorem l05Value_any (a b c x y : Int) (w : World) (h : Small a b c) (x0 : -1700000 ≤ x) (x1 : x ≤ 1700000) (y0 : -1700000 ≤ y) (y1 : y ≤ 1700000) :
    Calls Try.prog 89 #[(.agg #[.int .i64 a, .int .i64 b, .int .i64 c]), (.int .i64 x), (.int .i64 y)] w fun e w' => e = .returned (.int .i64 (formAt a b c x y)) ∧ Below w.heap.size w w' := by
  obtain ⟨a0, a1, b0, b1, c0, c1⟩ := h
  obtain ⟨p0, p1⟩ := mul_bd a0 a1 x0 x1
  obtain ⟨p2, p3⟩ := mul_bd p0 p1 x0 x1
  obtain ⟨q0, q1⟩ := mul_bd b0 b1 x0 x1
  obtain ⟨q2, q3⟩ := mul_bd q0 q1 y0 y1
  obtain ⟨r0, r1⟩ := mul_bd c0 c1 y0 y1
  obtain ⟨r2, r3⟩ := mul_bd r0 r1 y0 y1
  go_enter Try.func89, Try.ntmps89
  go_wp2
  go_ret
  exact ⟨rfl, by go_grown⟩

/-- The bounds that the middle number of a made form wants. -/
structure MidBd (a b c p q r s : Int) : Prop where
  m0 : -2000000000 ≤ 2 * a * p ∧ 2 * a * p ≤ 2000000000
  m1 : -3400000000000000 ≤ 2 * a * p * q ∧ 2 * a * p * q ≤ 3400000000000000
  m2 : -1700000000 ≤ p * s ∧ p * s ≤ 1700000000
  m3 : -1700000000 ≤ q * r ∧ q * r ≤ 1700000000
  m4 : -3400000000000000 ≤ b * (p * s + q * r) ∧ b * (p * s + q * r) ≤ 3400000000000000
  m5 : -2000000000 ≤ 2 * c * r ∧ 2 * c * r ≤ 2000000000
  m6 : -3400000000000000 ≤ 2 * c * r * s ∧ 2 * c * r * s ≤ 3400000000000000
theorem midBd {a b c p q r s : Int} (h : Small a b c) (p0 : -1000 ≤ p) (p1 : p ≤ 1000) (r0 : -1000 ≤ r) (r1 : r ≤ 1000) (q0 : -1700000 ≤ q) (q1 : q ≤ 1700000) (s0 : -1700000 ≤ s) (s1 : s ≤ 1700000) : MidBd a b c p q r s := by
  obtain ⟨a0, a1, b0, b1, c0, c1⟩ := h
  have e0 := mul_bd (a := 2 * a) (b := p) (A := 2000000) (B := 1000) (by omega) (by omega) p0 p1
  have e1 := mul_bd e0.1 e0.2 q0 q1
  have e2 := mul_bd p0 p1 s0 s1
  have e3 := mul_bd q0 q1 r0 r1
  have e4 := mul_bd (a := b) (b := p * s + q * r) (A := 1000000) (B := 3400000000) b0 b1 (by omega) (by omega)
  have e5 := mul_bd (a := 2 * c) (b := r) (A := 2000000) (B := 1000) (by omega) (by omega) r0 r1
  have e6 := mul_bd e5.1 e5.2 s0 s1
  exact ⟨by omega, by omega, by omega, by omega, by omega, by omega, by omega⟩

set_option maxHeartbeats 1000000 in
theorem apply_any (a b c p q r s : Int) (w : World) (h : Small a b c) (p0 : -1000 ≤ p) (p1 : p ≤ 1000) (r0 : -1000 ≤ r) (r1 : r ≤ 1000) (q0 : -1700000 ≤ q) (q1 : q ≤ 1700000) (s0 : -1700000 ≤ s) (s1 : s ≤ 1700000) :
    Calls Try.prog 78 #[(.agg #[.int .i64 a, .int .i64 b, .int .i64 c]), (.agg #[.int .i64 p, .int .i64 q, .int .i64 r, .int .i64 s])] w fun e w' => e = .returned (.agg #[.int .i64 (formAt a b c p r), .int .i64 (formMid a b c p q r s), .int .i64 (formAt a b c q s)]) ∧ Below w.heap.size w w' := by
  obtain ⟨⟨m00, m01⟩, ⟨m10, m11⟩, ⟨m20, m21⟩, ⟨m30, m31⟩, ⟨m40, m41⟩, ⟨m50, m51⟩, ⟨m60, m61⟩⟩ := midBd h p0 p1 r0 r1 q0 q1 s0 s1
  have ⟨a0, a1, b0, b1, c0, c1⟩ := h
  go_enter Try.func78, Try.ntmps78
  go_wp2
  go_quiet (fail)
  go_wp2
  refine wp_region_ext_tail 35 (by kernel_rfl) (by kernel_rfl) ?_
  simp only [List.take_succ_cons, List.take_zero, List.drop_succ_cons, List.drop_zero]
  repeat (go_big_quiet_step ((go_at_call 95; refine Calls.ext_of (Nat.le_refl _) (at_any _ _ _ _ _ _ h (by omega) (by omega) (by omega) (by omega)))))
  refine wpQuiet_nil ?_
  intro w1 hb1
  obtain ⟨hc1, hf1⟩ := bcell hb1
  have hB : Below w.heap.size w w1 := bfin (below_drewN (by go_grown) _) hb1
  go_wp2
  refine bodyPost_ret (v := (.agg #[.int .i64 (formAt a b c p r), .int .i64 (formMid a b c p q r s), .int .i64 (formAt a b c q s)])) (by simp [results, Try.results78, go_sem, hc1] <;> rfl) rfl ⟨rfl, by go_grown⟩
set_option maxHeartbeats 1000000 in
theorem l05Apply_any (a b c p q r s : Int) (w : World) (h : Small a b c) (p0 : -1000 ≤ p) (p1 : p ≤ 1000) (r0 : -1000 ≤ r) (r1 : r ≤ 1000) (q0 : -1700000 ≤ q) (q1 : q ≤ 1700000) (s0 : -1700000 ≤ s) (s1 : s ≤ 1700000) :
    Calls Try.prog 59 #[(.agg #[.int .i64 a, .int .i64 b, .int .i64 c]), (.agg #[.int .i64 p, .int .i64 q, .int .i64 r, .int .i64 s])] w fun e w' => e = .returned (.agg #[.int .i64 (formAt a b c p r), .int .i64 (formMid a b c p q r s), .int .i64 (formAt a b c q s)]) ∧ Below w.heap.size w w' := by
  obtain ⟨⟨m00, m01⟩, ⟨m10, m11⟩, ⟨m20, m21⟩, ⟨m30, m31⟩, ⟨m40, m41⟩, ⟨m50, m51⟩, ⟨m60, m61⟩⟩ := midBd h p0 p1 r0 r1 q0 q1 s0 s1
  have ⟨a0, a1, b0, b1, c0, c1⟩ := h
  go_enter Try.func59, Try.ntmps59
  go_wp2
  refine wp_region_ext_tail 47 (by kernel_rfl) (by kernel_rfl) ?_
  simp only [List.take_succ_cons, List.take_zero, List.drop_succ_cons, List.drop_zero]
  repeat (go_big_quiet_step ((go_at_call 89; refine Calls.ext_of (Nat.le_refl _) (l05Value_any _ _ _ _ _ _ h (by omega) (by omega) (by omega) (by omega)))))
  refine wpQuiet_nil ?_
  intro w1 hb1
  obtain ⟨hc1, hf1⟩ := bcell hb1
  have hB : Below w.heap.size w w1 := bfin (by go_grown) hb1
  go_wp2
  refine bodyPost_ret (v := (.agg #[.int .i64 (formAt a b c p r), .int .i64 (formMid a b c p q r s), .int .i64 (formAt a b c q s)])) (by simp [results, Try.results59, go_sem, hc1] <;> rfl) rfl ⟨rfl, by go_grown⟩

theorem areSmall_any (a b c : Int) (w : World) (ha : -9000000000000000000 ≤ a ∧ a ≤ 9000000000000000000) (hb : -9000000000000000000 ≤ b ∧ b ≤ 9000000000000000000) (hc : -9000000000000000000 ≤ c ∧ c ≤ 9000000000000000000) :
    Calls Try.prog 45 #[(.agg #[.int .i64 a, .int .i64 b, .int .i64 c])] w fun e w' => e = .returned (.bool (smallB a b c)) ∧ Below w.heap.size w w' := by
  obtain ⟨a0, a1⟩ := ha
  obtain ⟨b0, b1⟩ := hb
  obtain ⟨c0, c1⟩ := hc
  go_enter Try.func45, Try.ntmps45
  go_wp2_with fail
  refine wp_region_ext (by kernel_rfl) (by kernel_rfl) ?_
  repeat (go_big_quiet_step ((go_at_call 72; refine Calls.ext_same (size_any _ _ (by omega) (by omega)))))
  refine wpQuiet_nil ?_
  intro w1 hb1
  go_wp2
  all_goals
    go_ret
    exact ⟨ret_bool (by rw [Bool.eq_iff_iff]; simp [smallB, inB]; omega), bfin (by go_grown) hb1⟩
end Go.Proofs.Ytcaiofhdcffogaa
/- Contracts: a matrix with small numbers and a form. -/
namespace Go.Proofs.Ytcaiofhdcffogaa
open Go.RowKit

theorem applied_noForm (a b c p q r s : Int) (w : World) (hF : isForm a b c = false) :
    Calls Try.prog 57 #[(.agg #[.int .i64 a, .int .i64 b, .int .i64 c]), (.agg #[.int .i64 p, .int .i64 q, .int .i64 r, .int .i64 s])] w fun e w' => e = .returned (.tuple #[(.agg #[.int .i64 0, .int .i64 0, .int .i64 0]), (.int .i64 1)]) ∧ Below w.heap.size w w' := by
  go_enter Try.func57, Try.ntmps57
  go_wp2_with fail
  refine (IsForm_any _ _ _ _).mono ?_; rintro e w1 ⟨rfl, hb1⟩
  obtain ⟨hc1, hf1⟩ := bcell hb1
  have hB : Below w.heap.size w w1 := bfin (by go_grown) hb1
  go_wp2_with fail
  refine bodyPost_ret (v := .tuple #[(.agg #[.int .i64 0, .int .i64 0, .int .i64 0]), (.int .i64 1)]) (by simp [results, Try.results57, go_sem, hc1] <;> rfl) rfl ⟨rfl, by go_grown⟩
theorem applied_noMat (a b c p q r s : Int) (w : World) (hF : isForm a b c = true) (hM : isMat p q r s = false) :
    Calls Try.prog 57 #[(.agg #[.int .i64 a, .int .i64 b, .int .i64 c]), (.agg #[.int .i64 p, .int .i64 q, .int .i64 r, .int .i64 s])] w fun e w' => e = .returned (.tuple #[(.agg #[.int .i64 0, .int .i64 0, .int .i64 0]), (.int .i64 1)]) ∧ Below w.heap.size w w' := by
  go_enter Try.func57, Try.ntmps57
  go_wp2_with fail
  refine (IsForm_any _ _ _ _).mono ?_; rintro e w1 ⟨rfl, hb1⟩
  obtain ⟨hc1, hf1⟩ := bcell hb1
  go_wp2_with fail
  refine (IsMatrix_any _ _ _ _ _).mono ?_; rintro e w2 ⟨rfl, hb2⟩
  replace hb2 := bstep hb1 hb2
  clear hc1 hf1 hb1
  obtain ⟨hc1, hf1⟩ := bcell hb2
  have hB : Below w.heap.size w w2 := bfin (by go_grown) hb2
  go_wp2_with fail
  refine bodyPost_ret (v := .tuple #[(.agg #[.int .i64 0, .int .i64 0, .int .i64 0]), (.int .i64 1)]) (by simp [results, Try.results57, go_sem, hc1] <;> rfl) rfl ⟨rfl, by go_grown⟩
set_option maxHeartbeats 1000000 in
theorem applied_far (a b c p q r s : Int) (w : World) (hF : isForm a b c = true) (hM : isMat p q r s = true) (hS : smallM p q r s = false) :
    Calls Try.prog 57 #[(.agg #[.int .i64 a, .int .i64 b, .int .i64 c]), (.agg #[.int .i64 p, .int .i64 q, .int .i64 r, .int .i64 s])] w fun e w' => e = .returned (.tuple #[(.agg #[.int .i64 0, .int .i64 0, .int .i64 0]), (.int .i64 2)]) ∧ Below w.heap.size w w' := by
  obtain ⟨p0, p1, q0, q1, r0, r1, s0, s1, _⟩ := isMat_iff.1 hM
  have HS := Lib.hid (smallM_no.1 hS)
  clear hS
  go_enter Try.func57, Try.ntmps57
  go_wp2_with fail
  refine (IsForm_any _ _ _ _).mono ?_; rintro e w1 ⟨rfl, hb1⟩
  obtain ⟨hc1, hf1⟩ := bcell hb1
  go_wp2_with fail
  refine (IsMatrix_any _ _ _ _ _).mono ?_; rintro e w2 ⟨rfl, hb2⟩
  replace hb2 := bstep hb1 hb2
  clear hc1 hf1 hb1
  obtain ⟨hc1, hf1⟩ := bcell hb2
  have hB : Below w.heap.size w w2 := bfin (by go_grown) hb2
  obtain ⟨hz0, hz1, hz2⟩ : w.heap.size < w2.heap.size ∧ w.heap.size + 1 < w2.heap.size ∧ w.heap.size + 1 + 1 < w2.heap.size := by have := hb2.size; simp at this; omega
  go_wp2_with fail
  refine wp_region_ext (by kernel_rfl) (by kernel_rfl) ?_
  repeat (go_big_quiet_step ((go_at_call 72; refine Calls.ext_same (size_any _ _ (by omega) (by omega)))))
  refine wpQuiet_nil ?_
  intro w3 hb3
  replace hb3 := bstep hb2 hb3
  clear hc1 hf1 hb2 hB
  obtain ⟨hc1, hf1⟩ := bcell hb3
  have hB : Below w.heap.size w w3 := bfin (by go_grown) hb3
  go_wp2_with fail
  all_goals first
    | (exfalso; have := HS.out; omega)
    | refine bodyPost_ret (v := .tuple #[(.agg #[.int .i64 0, .int .i64 0, .int .i64 0]), (.int .i64 2)]) (by simp [results, Try.results57, go_sem, hc1] <;> rfl) rfl ⟨rfl, by go_grown⟩
set_option maxHeartbeats 1000000 in
theorem applied_ok (a b c p q r s : Int) (w : World) (hF : isForm a b c = true) (hM : isMat p q r s = true) (hS : smallM p q r s = true) :
    Calls Try.prog 57 #[(.agg #[.int .i64 a, .int .i64 b, .int .i64 c]), (.agg #[.int .i64 p, .int .i64 q, .int .i64 r, .int .i64 s])] w fun e w' => e = .returned (.tuple #[(.agg #[.int .i64 (formAt a b c p r), .int .i64 (formMid a b c p q r s), .int .i64 (formAt a b c q s)]), (.int .i64 0)]) ∧ Below w.heap.size w w' := by
  obtain ⟨⟨p0, p1⟩, ⟨q0, q1⟩, ⟨r0, r1⟩, s0, s1⟩ := smallM_iff.1 hS
  clear hS
  go_enter Try.func57, Try.ntmps57
  go_wp2_with fail
  refine (IsForm_any _ _ _ _).mono ?_; rintro e w1 ⟨rfl, hb1⟩
  obtain ⟨hc1, hf1⟩ := bcell hb1
  go_wp2_with fail
  refine (IsMatrix_any _ _ _ _ _).mono ?_; rintro e w2 ⟨rfl, hb2⟩
  replace hb2 := bstep hb1 hb2
  clear hc1 hf1 hb1
  obtain ⟨hc1, hf1⟩ := bcell hb2
  obtain ⟨hz0, hz1, hz2⟩ : w.heap.size < w2.heap.size ∧ w.heap.size + 1 < w2.heap.size ∧ w.heap.size + 1 + 1 < w2.heap.size := by have := hb2.size; simp at this; omega
  go_wp2_with fail
  refine wp_region_ext (by kernel_rfl) (by kernel_rfl) ?_
  repeat (go_big_quiet_step ((go_at_call 72; refine Calls.ext_same (size_any _ _ (by omega) (by omega)))))
  refine wpQuiet_nil ?_
  intro w3 hb3
  replace hb3 := bstep hb2 hb3
  clear hc1 hf1 hb2 hz0 hz1 hz2
  obtain ⟨hc1, hf1⟩ := bcell hb3
  go_wp2_with fail
  all_goals first
    | (exfalso; omega)
    | skip
  all_goals
    refine (apply_any _ _ _ _ _ _ _ _ (small_of hF) p0 p1 r0 r1 (by omega) (by omega) (by omega) (by omega)).mono ?_; rintro e w4 ⟨rfl, hb4⟩
    replace hb4 := bstep hb3 hb4
    clear hc1 hf1 hb3
    obtain ⟨hc1, hf1⟩ := bcell hb4
    have hB : Below w.heap.size w w4 := bfin (by go_grown) hb4
    go_wp2_with fail
    refine bodyPost_ret (v := .tuple #[(.agg #[.int .i64 (formAt a b c p r), .int .i64 (formMid a b c p q r s), .int .i64 (formAt a b c q s)]), (.int .i64 0)]) (by simp [results, Try.results57, go_sem, hc1] <;> rfl) rfl ⟨rfl, by go_grown⟩
end Go.Proofs.Ytcaiofhdcffogaa
/- Contracts: discriminants, values and made forms, as they are handed out. -/
namespace Go.Proofs.Ytcaiofhdcffogaa
open Go.RowKit
theorem DiscriminantOf_any (a b c : Int) (w : World) :
    Calls Try.prog 12 #[(.agg #[.int .i64 a, .int .i64 b, .int .i64 c])] w fun e w' => e = .returned (.tuple #[(.int .i64 ((discOf a b c).1)), (.int .i64 ((discOf a b c).2))]) ∧ Below w.heap.size w w' := by
  cases hF : isForm a b c
  · rw [discOf_no hF]
    go_enter Try.func12, Try.ntmps12
    go_wp2_with fail
    refine (IsForm_any _ _ _ _).mono ?_; rintro e w1 ⟨rfl, hb1⟩
    obtain ⟨hc1, hf1⟩ := bcell hb1
    have hB1 : Below w.heap.size w w1 := bfin (by go_grown) hb1
    go_wp2_with fail
    refine bodyPost_ret (v := .tuple #[(.int .i64 0), (.int .i64 1)]) (by first | (simp [results, Try.results12, go_sem]; done) | (simp [results, Try.results12, go_sem, hc1] <;> rfl)) rfl ⟨rfl, by go_grown⟩
  · rw [discOf_yes hF]
    go_enter Try.func12, Try.ntmps12
    go_wp2_with fail
    refine (IsForm_any _ _ _ _).mono ?_; rintro e w1 ⟨rfl, hb1⟩
    obtain ⟨hc1, hf1⟩ := bcell hb1
    go_wp2_with fail
    refine (disc_any _ _ _ _ (small_of hF)).mono ?_; rintro e w2 ⟨rfl, hb2⟩
    replace hb2 := bstep hb1 hb2
    clear hc1 hf1 hb1
    obtain ⟨hc2, hf2⟩ := bcell hb2
    have hB2 : Below w.heap.size w w2 := bfin (by go_grown) hb2
    go_wp2_with fail
    refine bodyPost_ret (v := .tuple #[(.int .i64 (b * b - 4 * a * c)), (.int .i64 0)]) (by first | (simp [results, Try.results12, go_sem]; done) | (simp [results, Try.results12, go_sem, hc2] <;> rfl)) rfl ⟨rfl, by go_grown⟩
end Go.Proofs.Ytcaiofhdcffogaa
/- Contracts: values, made forms, forms that are kept. -/
namespace Go.Proofs.Ytcaiofhdcffogaa
open Go.RowKit
attribute [local go_sem] eqForm3
theorem l05Code_any (a b c p q r s : Int) (w : World) :
    Calls Try.prog 66 #[(.agg #[.int .i64 a, .int .i64 b, .int .i64 c]), (.agg #[.int .i64 p, .int .i64 q, .int .i64 r, .int .i64 s])] w fun e w' => e = .returned (.int .i64 (appliedCode a b c p q r s)) ∧ Below w.heap.size w w' := by
  cases hF : isForm a b c
  · rw [show appliedCode a b c p q r s = 1 by simp [appliedCode, hF]]
    go_enter Try.func66, Try.ntmps66
    go_wp2_with fail
    refine (l05Is_any _ _ _ _).mono ?_; rintro e w1 ⟨rfl, hb1⟩
    obtain ⟨hc1, hf1⟩ := bcell hb1
    have hB1 : Below w.heap.size w w1 := bfin (by go_grown) hb1
    go_wp2_with fail
    go_ret
    exact ⟨rfl, by go_grown⟩
  cases hM : isMat p q r s
  · rw [show appliedCode a b c p q r s = 1 by simp [appliedCode, hF, hM]]
    go_enter Try.func66, Try.ntmps66
    go_wp2_with fail
    refine (l05Is_any _ _ _ _).mono ?_; rintro e w1 ⟨rfl, hb1⟩
    obtain ⟨hc1, hf1⟩ := bcell hb1
    go_wp2_with fail
    refine (l01Is_any _ _ _ _ _).mono ?_; rintro e w2 ⟨rfl, hb2⟩
    replace hb2 := bstep hb1 hb2
    clear hc1 hf1 hb1
    obtain ⟨hc2, hf2⟩ := bcell hb2
    have hB2 : Below w.heap.size w w2 := bfin (by go_grown) hb2
    go_wp2_with fail
    go_ret
    exact ⟨rfl, by go_grown⟩
  have e0 : appliedCode a b c p q r s = if smallM p q r s = true then 0 else 2 := by simp [appliedCode, hF, hM]
  rw [e0]
  clear e0
  cases hp : inB p (-1000) 1000
  · rw [show smallM p q r s = false by simp [smallM, hp]]
    go_enter Try.func66, Try.ntmps66
    go_wp2_with fail
    refine (l05Is_any _ _ _ _).mono ?_; rintro e w1 ⟨rfl, hb1⟩
    obtain ⟨hc1, hf1⟩ := bcell hb1
    go_wp2_with fail
    refine (l01Is_any _ _ _ _ _).mono ?_; rintro e w2 ⟨rfl, hb2⟩
    replace hb2 := bstep hb1 hb2
    clear hc1 hf1 hb1
    obtain ⟨hc2, hf2⟩ := bcell hb2
    obtain ⟨hz0, hz1⟩ : w.heap.size < w2.heap.size ∧ w.heap.size + 1 < w2.heap.size := by have := hb2.size; (try simp at this); omega
    go_wp2_with fail
    refine wp_loop_rounds 5 ?_
    repeat any_goals (rw [rounds_succ]; go_wp2_with (go_at_call 73; refine (l01In_any _ _ _ _).mono ?_; rintro e w' ⟨rfl, rfl⟩))
    have hB2 : Below w.heap.size w w2 := bfin (by go_grown) hb2
    go_wp2_with fail
    go_ret
    exact ⟨rfl, by go_grown⟩
  cases hq : inB q (-1000) 1000
  · rw [show smallM p q r s = false by simp [smallM, hq]]
    go_enter Try.func66, Try.ntmps66
    go_wp2_with fail
    refine (l05Is_any _ _ _ _).mono ?_; rintro e w1 ⟨rfl, hb1⟩
    obtain ⟨hc1, hf1⟩ := bcell hb1
    go_wp2_with fail
    refine (l01Is_any _ _ _ _ _).mono ?_; rintro e w2 ⟨rfl, hb2⟩
    replace hb2 := bstep hb1 hb2
    clear hc1 hf1 hb1
    obtain ⟨hc2, hf2⟩ := bcell hb2
    obtain ⟨hz0, hz1⟩ : w.heap.size < w2.heap.size ∧ w.heap.size + 1 < w2.heap.size := by have := hb2.size; (try simp at this); omega
    go_wp2_with fail
    refine wp_loop_rounds 5 ?_
    repeat any_goals (rw [rounds_succ]; go_wp2_with (go_at_call 73; refine (l01In_any _ _ _ _).mono ?_; rintro e w' ⟨rfl, rfl⟩))
    have hB2 : Below w.heap.size w w2 := bfin (by go_grown) hb2
    go_wp2_with fail
    go_ret
    exact ⟨rfl, by go_grown⟩
  cases hr : inB r (-1000) 1000
  · rw [show smallM p q r s = false by simp [smallM, hr]]
    go_enter Try.func66, Try.ntmps66
    go_wp2_with fail
    refine (l05Is_any _ _ _ _).mono ?_; rintro e w1 ⟨rfl, hb1⟩
    obtain ⟨hc1, hf1⟩ := bcell hb1
    go_wp2_with fail
    refine (l01Is_any _ _ _ _ _).mono ?_; rintro e w2 ⟨rfl, hb2⟩
    replace hb2 := bstep hb1 hb2
    clear hc1 hf1 hb1
    obtain ⟨hc2, hf2⟩ := bcell hb2
    obtain ⟨hz0, hz1⟩ : w.heap.size < w2.heap.size ∧ w.heap.size + 1 < w2.heap.size := by have := hb2.size; (try simp at this); omega
    go_wp2_with fail
    refine wp_loop_rounds 5 ?_
    repeat any_goals (rw [rounds_succ]; go_wp2_with (go_at_call 73; refine (l01In_any _ _ _ _).mono ?_; rintro e w' ⟨rfl, rfl⟩))
    have hB2 : Below w.heap.size w w2 := bfin (by go_grown) hb2
    go_wp2_with fail
    go_ret
    exact ⟨rfl, by go_grown⟩
  cases hs : inB s (-1000) 1000
  · rw [show smallM p q r s = false by simp [smallM, hs]]
    go_enter Try.func66, Try.ntmps66
    go_wp2_with fail
    refine (l05Is_any _ _ _ _).mono ?_; rintro e w1 ⟨rfl, hb1⟩
    obtain ⟨hc1, hf1⟩ := bcell hb1
    go_wp2_with fail
    refine (l01Is_any _ _ _ _ _).mono ?_; rintro e w2 ⟨rfl, hb2⟩
    replace hb2 := bstep hb1 hb2
    clear hc1 hf1 hb1
    obtain ⟨hc2, hf2⟩ := bcell hb2
    obtain ⟨hz0, hz1⟩ : w.heap.size < w2.heap.size ∧ w.heap.size + 1 < w2.heap.size := by have := hb2.size; (try simp at this); omega
    go_wp2_with fail
    refine wp_loop_rounds 5 ?_
    repeat any_goals (rw [rounds_succ]; go_wp2_with (go_at_call 73; refine (l01In_any _ _ _ _).mono ?_; rintro e w' ⟨rfl, rfl⟩))
    have hB2 : Below w.heap.size w w2 := bfin (by go_grown) hb2
    go_wp2_with fail
    go_ret
    exact ⟨rfl, by go_grown⟩
  rw [show smallM p q r s = true by simp [smallM, hp, hq, hr, hs]]
  go_enter Try.func66, Try.ntmps66
  go_wp2_with fail
  refine (l05Is_any _ _ _ _).mono ?_; rintro e w1 ⟨rfl, hb1⟩
  obtain ⟨hc1, hf1⟩ := bcell hb1
  go_wp2_with fail
  refine (l01Is_any _ _ _ _ _).mono ?_; rintro e w2 ⟨rfl, hb2⟩
  replace hb2 := bstep hb1 hb2
  clear hc1 hf1 hb1
  obtain ⟨hc2, hf2⟩ := bcell hb2
  obtain ⟨hz0, hz1⟩ : w.heap.size < w2.heap.size ∧ w.heap.size + 1 < w2.heap.size := by have := hb2.size; (try simp at this); omega
  go_wp2_with fail
  refine wp_loop_rounds 5 ?_
  repeat any_goals (rw [rounds_succ]; go_wp2_with (go_at_call 73; refine (l01In_any _ _ _ _).mono ?_; rintro e w' ⟨rfl, rfl⟩))
  have hB2 : Below w.heap.size w w2 := bfin (by go_grown) hb2
  go_wp2_with fail
  go_ret
  exact ⟨rfl, by go_grown⟩
end Go.Proofs.Ytcaiofhdcffogaa
/- Contracts: made forms, forms that are kept; the laws on them. -/
namespace Go.Proofs.Ytcaiofhdcffogaa
open Go.RowKit
attribute [local go_sem] eqForm3
/-- 'applied', whatever comes in. -/
theorem applied_bad (a b c p q r s : Int) (w : World) (k : Int) (hk : appliedCode a b c p q r s = k) (h0 : k ≠ 0) :
    Calls Try.prog 57 #[(.agg #[.int .i64 a, .int .i64 b, .int .i64 c]), (.agg #[.int .i64 p, .int .i64 q, .int .i64 r, .int .i64 s])] w fun e w' => e = .returned (.tuple #[(.agg #[.int .i64 0, .int .i64 0, .int .i64 0]), (.int .i64 k)]) ∧ Below w.heap.size w w' := by
  cases hF : isForm a b c
  · rw [← hk, show appliedCode a b c p q r s = 1 by simp [appliedCode, hF]]
    exact applied_noForm _ _ _ _ _ _ _ _ hF
  cases hM : isMat p q r s
  · rw [← hk, show appliedCode a b c p q r s = 1 by simp [appliedCode, hF, hM]]
    exact applied_noMat _ _ _ _ _ _ _ _ hF hM
  cases hS : smallM p q r s
  · rw [← hk, show appliedCode a b c p q r s = 2 by simp [appliedCode, hF, hM, hS]]
    exact applied_far _ _ _ _ _ _ _ _ hF hM hS
  · exact absurd (appliedCode_yes hF hM hS) (by rw [hk]; exact h0)
theorem KeepsForm_any (a b c p q r s : Int) (w : World) :
    Calls Try.prog 22 #[(.agg #[.int .i64 a, .int .i64 b, .int .i64 c]), (.agg #[.int .i64 p, .int .i64 q, .int .i64 r, .int .i64 s])] w fun e w' => e = .returned (.tuple #[.bool (keepsF a b c p q r s).1, (.int .i64 ((keepsF a b c p q r s).2))]) ∧ Below w.heap.size w w' := by
  by_cases h0 : appliedCode a b c p q r s = 0
  · obtain ⟨hF, hM, hS⟩ := appliedCode_0 h0
    rw [show keepsF a b c p q r s = ((formAt a b c p r == a && (formMid a b c p q r s == b && formAt a b c q s == c)), 0) by simp [keepsF, h0]]
    have H0 := Lib.hid h0
    clear h0
    go_enter Try.func22, Try.ntmps22
    go_wp2_with fail
    refine (applied_ok _ _ _ _ _ _ _ _ hF hM hS).mono ?_; rintro e w1 ⟨rfl, hb1⟩
    obtain ⟨hc1, hf1⟩ := bcell hb1
    obtain ⟨hz0, hz1⟩ : w.heap.size < w1.heap.size ∧ w.heap.size + 1 < w1.heap.size := by have := hb1.size; (try simp at this); omega
    have hB1 : Below w.heap.size w w1 := bfin (by go_grown) hb1
    go_wp2_with fail
    have hall := And.intro hc1 (And.intro hz0 (hz1))
    refine bodyPost_ret (v := .tuple #[.bool (formAt a b c p r == a && (formMid a b c p q r s == b && formAt a b c q s == c)), (.int .i64 0)]) (by first | (simp [results, Try.results22, go_sem]; done) | (simp [results, Try.results22, go_sem, hall] <;> rfl)) rfl ⟨rfl, by go_grown⟩
  · generalize hk : appliedCode a b c p q r s = k at h0
    rw [show keepsF a b c p q r s = (false, k) by simp [keepsF, hk, h0]]
    have hne : (k != 0) = true := by simp [h0]
    have HK := Lib.hid hk
    clear hk
    go_enter Try.func22, Try.ntmps22
    go_wp2_with fail
    refine (applied_bad _ _ _ _ _ _ _ _ k HK.out h0).mono ?_; rintro e w1 ⟨rfl, hb1⟩
    obtain ⟨hc1, hf1⟩ := bcell hb1
    obtain ⟨hz0, hz1⟩ : w.heap.size < w1.heap.size ∧ w.heap.size + 1 < w1.heap.size := by have := hb1.size; (try simp at this); omega
    have hB1 : Below w.heap.size w w1 := bfin (by go_grown) hb1
    go_wp2_with fail
    have hall := And.intro hc1 (And.intro hz0 (hz1))
    refine bodyPost_ret (v := .tuple #[.bool false, (.int .i64 k)]) (by first | (simp [results, Try.results22, go_sem]; done) | (simp [results, Try.results22, go_sem, hall] <;> rfl)) rfl ⟨rfl, by go_grown⟩
theorem sKeepsForm_any (a b c p q r s : Int) (w : World) :
    Calls Try.prog 26 #[(.agg #[.int .i64 a, .int .i64 b, .int .i64 c]), (.agg #[.int .i64 p, .int .i64 q, .int .i64 r, .int .i64 s])] w fun e w' => e = .returned (.tuple #[.bool (keepsF a b c p q r s).1, (.int .i64 ((keepsF a b c p q r s).2))]) ∧ Below w.heap.size w w' := by
  by_cases h0 : appliedCode a b c p q r s = 0
  · obtain ⟨hF, hM, hS⟩ := appliedCode_0 h0
    obtain ⟨⟨p0, p1⟩, ⟨q0, q1⟩, ⟨r0, r1⟩, s0, s1⟩ := smallM_iff.1 hS
    rw [show keepsF a b c p q r s = ((formAt a b c p r == a && (formMid a b c p q r s == b && formAt a b c q s == c)), 0) by simp [keepsF, h0]]
    have H0 := Lib.hid h0
    clear h0
    have HC := Lib.hid (l05Code_any a b c p q r s)
    rw [H0.out] at HC
    go_enter Try.func26, Try.ntmps26
    go_wp2_with fail
    refine (HC.out _).mono ?_; rintro e w1 ⟨rfl, hb1⟩
    obtain ⟨hc1, hf1⟩ := bcell hb1
    obtain ⟨hz0, hz1⟩ : w.heap.size < w1.heap.size ∧ w.heap.size + 1 < w1.heap.size := by have := hb1.size; (try simp at this); omega
    go_wp2_with fail
    refine wp_region_ext (by kernel_rfl) (by kernel_rfl) ?_
    repeat (go_big_quiet_step (((go_at_call 59; refine Calls.ext_of (Nat.le_refl _) (l05Apply_any _ _ _ _ _ _ _ _ (small_of hF) (by omega) (by omega) (by omega) (by omega) (by omega) (by omega) (by omega) (by omega))))))
    refine wpQuiet_nil ?_
    intro w2 hb2
    replace hb2 := bstep hb1 hb2
    clear hc1 hf1 hb1
    obtain ⟨hc2, hf2⟩ := bcell hb2
    have hB2 : Below w.heap.size w w2 := bfin (by go_grown) hb2
    go_wp2_with fail
    have hall := And.intro hc2 (And.intro hz0 (hz1))
    refine bodyPost_ret (v := .tuple #[.bool (formAt a b c p r == a && (formMid a b c p q r s == b && formAt a b c q s == c)), (.int .i64 0)]) (by first | (simp [results, Try.results26, go_sem]; done) | (simp [results, Try.results26, go_sem, hall] <;> rfl)) rfl ⟨rfl, by go_grown⟩
  · have HC := Lib.hid (l05Code_any a b c p q r s)
    generalize hk : appliedCode a b c p q r s = k at h0 HC
    rw [show keepsF a b c p q r s = (false, k) by simp [keepsF, hk, h0]]
    have hne : (k != 0) = true := by simp [h0]
    clear hk
    go_enter Try.func26, Try.ntmps26
    go_wp2_with fail
    refine (HC.out _).mono ?_; rintro e w1 ⟨rfl, hb1⟩
    obtain ⟨hc1, hf1⟩ := bcell hb1
    obtain ⟨hz0, hz1⟩ : w.heap.size < w1.heap.size ∧ w.heap.size + 1 < w1.heap.size := by have := hb1.size; (try simp at this); omega
    have hB1 : Below w.heap.size w w1 := bfin (by go_grown) hb1
    go_wp2_with fail
    have hall := And.intro hc1 (And.intro hz0 (hz1))
    refine bodyPost_ret (v := .tuple #[.bool false, (.int .i64 k)]) (by first | (simp [results, Try.results26, go_sem]; done) | (simp [results, Try.results26, go_sem, hall] <;> rfl)) rfl ⟨rfl, by go_grown⟩
end Go.Proofs.Ytcaiofhdcffogaa
