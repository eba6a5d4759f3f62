/- Contracts: discriminants, values, and forms made by matrices. -/
import Derived.Test.YtjgnhnbhcnfdbaaC3
namespace Go.Proofs.Ytjgnhnbhcnfdbaa
open Go.RowKit

theorem disc_any (a b c : Int) (w : World) (h : Small a b c) :
    Calls Try.prog 54 #[(.agg #[.int .i64 a, .int .i64 b, .int .i64 c])] w fun e w' => e = .returned (.int .i64 (b * b - 4 * a * c)) ∧ Below w.heap.size w w' := by
  obtain ⟨a0, a1, b0, b1, c0, c1⟩ := h
  have hb := mul_bd b0 b1 b0 b1
  have hc := mul_bd (a := 4 * a) (b := c) (A := 4000000) (B := 1000000) (by omega) (by omega) c0 c1
  obtain ⟨hb0, hb1⟩ := hb
  obtain ⟨hc0, hc1⟩ := hc
  go_enter Try.func54, Try.ntmps54
  go_wp2
  go_ret
  exact ⟨rfl, by go_grown⟩
theorem l05Disc_any (a b c : Int) (w : World) (h : Small a b c) :
    Calls Try.prog 50 #[(.agg #[.int .i64 a, .int .i64 b, .int .i64 c])] w fun e w' => e = .returned (.int .i64 (b * b - 4 * a * c)) ∧ Below w.heap.size w w' := by
  obtain ⟨a0, a1, b0, b1, c0, c1⟩ := h
  have hb := mul_bd b0 b1 b0 b1
  have hc := mul_bd (a := 4 * a) (b := c) (A := 4000000) (B := 1000000) (by omega) (by omega) c0 c1
  obtain ⟨hb0, hb1⟩ := hb
  obtain ⟨hc0, hc1⟩ := hc
  go_enter Try.func50, Try.ntmps50
  go_wp2
  go_ret
  exact ⟨rfl, by go_grown⟩
theorem at_any (a b c x y : Int) (w : World) (h : Small a b c) (x0 : -1700000 ≤ x) (x1 : x ≤ 1700000) (y0 : -1700000 ≤ y) (y1 : y ≤ 1700000) :
    Calls Try.prog 67 #[(.agg #[.int .i64 a, .int .i64 b, .int .i64 c]), (.int .i64 x), (.int .i64 y)] w fun e w' => e = .returned (.int .i64 (formAt a b c x y)) ∧ Below w.heap.size w w' := by
  obtain ⟨a0, a1, b0, b1, c0, c1⟩ := h
  obtain ⟨p0, p1⟩ := mul_bd a0 a1 x0 x1
  obtain ⟨p2, p3⟩ := mul_bd p0 p1 x0 x1
  obtain ⟨q0, q1⟩ := mul_bd b0 b1 x0 x1
  obtain ⟨q2, q3⟩ := mul_bd q0 q1 y0 y1
  obtain ⟨r0, r1⟩ := mul_bd c0 c1 y0 y1
  obtain ⟨r2, r3⟩ := mul_bd r0 r1 y0 y1
  go_enter Try.func67, Try.ntmps67
  go_wp2
  go_ret
  exact ⟨rfl, by go_grown⟩
theorem l05Value_any (a b c x y : Int) (w : World) (h : Small a b c) (x0 : -1700000 ≤ x) (x1 : x ≤ 1700000) (y0 : -1700000 ≤ y) (y1 : y ≤ 1700000) :
    Calls Try.prog 65 #[(.agg #[.int .i64 a, .int .i64 b, .int .i64 c]), (.int .i64 x), (.int .i64 y)] w fun e w' => e = .returned (.int .i64 (formAt a b c x y)) ∧ Below w.heap.size w w' := by
  obtain ⟨a0, a1, b0, b1, c0, c1⟩ := h
  obtain ⟨p0, p1⟩ := mul_bd a0 a1 x0 x1
  obtain ⟨p2, p3⟩ := mul_bd p0 p1 x0 x1
  obtain ⟨q0, q1⟩ := mul_bd b0 b1 x0 x1
  obtain ⟨q2, q3⟩ := mul_bd q0 q1 y0 y1
  obtain ⟨r0, r1⟩ := mul_bd c0 c1 y0 y1
  obtain ⟨r2, r3⟩ := mul_bd r0 r1 y0 y1
  go_enter Try.func65, Try.ntmps65
  go_wp2
  go_ret
  exact ⟨rfl, by go_grown⟩

/-- The bounds that the middle number of a made form wants. -/
structure MidBd (a b c p q r s : Int) : Prop where
  m0 : -2000000000 ≤ 2 * a * p ∧ 2 * a * p ≤ 2000000000
  m1 : -3400000000000000 ≤ 2 * a * p * q ∧ 2 * a * p * q ≤ 3400000000000000
  m2 : -1700000000 ≤ p * s ∧ p * s ≤ 1700000000
  m3 : -1700000000 ≤ q * r ∧ q * r ≤ 1700000000
  m4 : -3400000000000000 ≤ b * (p * s + q * r) ∧ b * (p * s + q * r) ≤ 3400000000000000
  m5 : -2000000000 ≤ 2 * c * r ∧ 2 * c * r ≤ 2000000000
  m6 : -3400000000000000 ≤ 2 * c * r * s ∧ 2 * c * r * s ≤ 3400000000000000
theorem midBd {a b c p q r s : Int} (h : Small a b c) (p0 : -1000 ≤ p) (p1 : p ≤ 1000) (r0 : -1000 ≤ r) (r1 : r ≤ 1000) (q0 : -1700000 ≤ q) (q1 : q ≤ 1700000) (s0 : -1700000 ≤ s) (s1 : s ≤ 1700000) : MidBd a b c p q r s := by
  obtain ⟨a0, a1, b0, b1, c0, c1⟩ := h
  have e0 := mul_bd (a := 2 * a) (b := p) (A := 2000000) (B := 1000) (by omega) (by omega) p0 p1
  have e1 := mul_bd e0.1 e0.2 q0 q1
  have e2 := mul_bd p0 p1 s0 s1
  have e3 := mul_bd q0 q1 r0 r1
  have e4 := mul_bd (a := b) (b := p * s + q * r) (A := 1000000) (B := 3400000000) b0 b1 (by omega) (by omega)
  have e5 := mul_bd (a := 2 * c) (b := r) (A := 2000000) (B := 1000) (by omega) (by omega) r0 r1
  have e6 := mul_bd e5.1 e5.2 s0 s1
  exact ⟨by omega, by omega, by omega, by omega, by omega, by omega, by omega⟩

set_option maxHeartbeats 1000000 in
theorem apply_any (a b c p q r s : Int) (w : World) (h : Small a b c) (p0 : -1000 ≤ p) (p1 : p ≤ 1000) (r0 : -1000 ≤ r) (r1 : r ≤ 1000) (q0 : -1700000 ≤ q) (q1 : q ≤ 1700000) (s0 : -1700000 ≤ s) (s1 : s ≤ 1700000) :
    Calls Try.prog 109 #[(.agg #[.int .i64 a, .int .i64 b, .int .i64 c]), (.agg #[.int .i64 p, .int .i64 q, .int .i64 r, .int .i64 s])] w fun e w' => e = .returned (.agg #[.int .i64 (formAt a b c p r), .int .i64 (formMid a b c p q r s), .int .i64 (formAt a b c q s)]) ∧ Below w.heap.size w w' := by
  obtain ⟨⟨m00, m01⟩, ⟨m10, m11⟩, ⟨m20, m21⟩, ⟨m30, m31⟩, ⟨m40, m41⟩, ⟨m50, m51⟩, ⟨m60, m61⟩⟩ := midBd h p0 p1 r0 r1 q0 q1 s0 s1
  have ⟨a0, a1, b0, b1, c0, c1⟩ := h
  go_enter Try.func109, Try.ntmps109
  go_wp2
  go_quiet (fail)
  go_wp2
  refine wp_region_ext_tail 35 (by kernel_rfl) (by kernel_rfl) ?_
  simp only [List.take_succ_cons, List.take_zero, List.drop_succ_cons, List.drop_zero]
  repeat (go_big_quiet_step ((go_at_call 67; refine Calls.ext_of (Nat.le_refl _) (at_any _ _ _ _ _ _ h (by omega) (by omega) (by omega) (by omega)))))
  refine wpQuiet_nil ?_
  intro w1 hb1
  obtain ⟨hc1, hf1⟩ := bcell hb1
  have hB : Below w.heap.size w w1 := bfin (below_drewN (by go_grown) _) hb1
  go_wp2
  refine bodyPost_ret (v := (.agg #[.int .i64 (formAt a b c p r), .int .i64 (formMid a b c p q r s), .int .i64 (formAt a b c q s)])) (by simp [results, Try.results109, go_sem, hc1] <;> rfl) rfl ⟨rfl, by go_grown⟩
set_option maxHeartbeats 1000000 in
theorem l05Apply_any (a b c p q r s : Int) (w : World) (h : Small a b c) (p0 : -1000 ≤ p) (p1 : p ≤ 1000) (r0 : -1000 ≤ r) (r1 : r ≤ 1000) (q0 : -1700000 ≤ q) (q1 : q ≤ 1700000) (s0 : -1700000 ≤ s) (s1 : s ≤ 1700000) :
    Calls Try.prog 105 #[(.agg #[.int .i64 a, .int .i64 b, .int .i64 c]), (.agg #[.int .i64 p, .int .i64 q, .int .i64 r, .int .i64 s])] w fun e w' => e = .returned (.agg #[.int .i64 (formAt a b c p r), .int .i64 (formMid a b c p q r s), .int .i64 (formAt a b c q s)]) ∧ Below w.heap.size w w' := by
  obtain ⟨⟨m00, m01⟩, ⟨m10, m11⟩, ⟨m20, m21⟩, ⟨m30, m31⟩, ⟨m40, m41⟩, ⟨m50, m51⟩, ⟨m60, m61⟩⟩ := midBd h p0 p1 r0 r1 q0 q1 s0 s1
  have ⟨a0, a1, b0, b1, c0, c1⟩ := h
  go_enter Try.func105, Try.ntmps105
  go_wp2
  refine wp_region_ext_tail 47 (by kernel_rfl) (by kernel_rfl) ?_
  simp only [List.take_succ_cons, List.take_zero, List.drop_succ_cons, List.drop_zero]
  repeat (go_big_quiet_step ((go_at_call 65; refine Calls.ext_of (Nat.le_refl _) (l05Value_any _ _ _ _ _ _ h (by omega) (by omega) (by omega) (by omega)))))
  refine wpQuiet_nil ?_
  intro w1 hb1
  obtain ⟨hc1, hf1⟩ := bcell hb1
  have hB : Below w.heap.size w w1 := bfin (by go_grown) hb1
  go_wp2
  refine bodyPost_ret (v := (.agg #[.int .i64 (formAt a b c p r), .int .i64 (formMid a b c p q r s), .int .i64 (formAt a b c q s)])) (by simp [results, Try.results105, go_sem, hc1] <;> rfl) rfl ⟨rfl, by go_grown⟩

end Go.Proofs.Ytjgnhnbhcnfdbaa
