/- Contracts: the product of matrices. -/
import Derived.Test.YtencfmipplgnkaaC2
import Derived.Test.YtencfmipplgnkaaNa
namespace Go.Proofs.Ytencfmipplgnkaa
open Go.RowKit
structure TBd (p q r s p' q' r' s' : Int) : Prop where
  m1 : -4000000000000000000 ≤ p * p' ∧ p * p' ≤ 4000000000000000000
  m2 : -4000000000000000000 ≤ q * r' ∧ q * r' ≤ 4000000000000000000
  m3 : -4000000000000000000 ≤ p * q' ∧ p * q' ≤ 4000000000000000000
  m4 : -4000000000000000000 ≤ q * s' ∧ q * s' ≤ 4000000000000000000
  m5 : -4000000000000000000 ≤ r * p' ∧ r * p' ≤ 4000000000000000000
  m6 : -4000000000000000000 ≤ s * r' ∧ s * r' ≤ 4000000000000000000
  m7 : -4000000000000000000 ≤ r * q' ∧ r * q' ≤ 4000000000000000000
  m8 : -4000000000000000000 ≤ s * s' ∧ s * s' ≤ 4000000000000000000
def E2 (x : Int) : Prop := -2000000000 ≤ x ∧ x ≤ 2000000000
structure E24 (x y z u : Int) : Prop where
  x : E2 x
  y : E2 y
  z : E2 z
  u : E2 u
theorem tBd {p q r s p' q' r' s' : Int} (h : E24 p q r s) (h' : E24 p' q' r' s') : TBd p q r s p' q' r' s' := by
  obtain ⟨⟨a0, a1⟩, ⟨b0, b1⟩, ⟨c0, c1⟩, ⟨d0, d1⟩⟩ := h
  obtain ⟨⟨a0', a1'⟩, ⟨b0', b1'⟩, ⟨c0', c1'⟩, ⟨d0', d1'⟩⟩ := h'
  exact ⟨mul_bd a0 a1 a0' a1', mul_bd b0 b1 c0' c1', mul_bd a0 a1 b0' b1', mul_bd b0 b1 d0' d1', mul_bd c0 c1 a0' a1', mul_bd d0 d1 c0' c1', mul_bd c0 c1 b0' b1', mul_bd d0 d1 d0' d1'⟩
set_option maxHeartbeats 1000000 in
theorem times_any (p q r s p' q' r' s' : Int) (w : World) (h : E24 p q r s) (h' : E24 p' q' r' s') :
    Calls Try.prog 66 #[(.agg #[.int .i64 p, .int .i64 q, .int .i64 r, .int .i64 s]), (.agg #[.int .i64 p', .int .i64 q', .int .i64 r', .int .i64 s'])] w fun e w' => e = .returned (.agg #[.int .i64 (p * p' + q * r'), .int .i64 (p * q' + q * s'), .int .i64 (r * p' + s * r'), .int .i64 (r * q' + s * s')]) ∧ Below w.heap.size w w' := by
  obtain ⟨⟨m10, m11⟩, ⟨m20, m21⟩, ⟨m30, m31⟩, ⟨m40, m41⟩, ⟨m50, m51⟩, ⟨m60, m61⟩, ⟨m70, m71⟩, ⟨m80, m81⟩⟩ := tBd h h'
  go_enter Try.func66, Try.ntmps66
  go_wp2_with fail
  refine bodyPost_ret (v := (.agg #[.int .i64 (p * p' + q * r'), .int .i64 (p * q' + q * s'), .int .i64 (r * p' + s * r'), .int .i64 (r * q' + s * s')])) (by simp [results, Try.results66, go_sem] <;> rfl) rfl ⟨rfl, by go_grown⟩
end Go.Proofs.Ytencfmipplgnkaa
