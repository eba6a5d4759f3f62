/- Contracts: the product of matrices. -/
import Derived.Test.YtjnkogkpdbgohaaGreatDoorCa
import Derived.Test.YtjnkogkpdbgohaaGreatDoorNa
namespace Go.Proofs.YtjnkogkpdbgohaaGreatDoor
open Go.RowKit
structure TBd (p q r s p' q' r' s' : Int) : Prop where
  m1 : -4000000000000000000 ≤ p * p' ∧ p * p' ≤ 4000000000000000000
  m2 : -4000000000000000000 ≤ q * r' ∧ q * r' ≤ 4000000000000000000
  m3 : -4000000000000000000 ≤ p * q' ∧ p * q' ≤ 4000000000000000000
  m4 : -4000000000000000000 ≤ q * s' ∧ q * s' ≤ 4000000000000000000
  m5 : -4000000000000000000 ≤ r * p' ∧ r * p' ≤ 4000000000000000000
  m6 : -4000000000000000000 ≤ s * r' ∧ s * r' ≤ 4000000000000000000
  m7 : -4000000000000000000 ≤ r * q' ∧ r * q' ≤ 4000000000000000000
  m8 : -4000000000000000000 ≤ s * s' ∧ s * s' ≤ 4000000000000000000
def E2 (x : Int) : Prop := -2000000000 ≤ x ∧ x ≤ 2000000000
structure E24 (x y z u : Int) : Prop where
  x : E2 x
  y : E2 y
  z : E2 z
  u : E2 u
theorem tBd {p q r s p' q' r' s' : Int} (h : E24 p q r s) (h' : E24 p' q' r' s') : TBd p q r s p' q' r' s' := by
  obtain ⟨⟨a0, a1⟩, ⟨b0, b1⟩, ⟨c0, c1⟩, ⟨d0, d1⟩⟩ := h
  obtain ⟨⟨a0', a1'⟩, ⟨b0', b1'⟩, ⟨c0', c1'⟩, ⟨d0', d1'⟩⟩ := h'
  exact ⟨mul_bd a0 a1 a0' a1', mul_bd b0 b1 c0' c1', mul_bd a0 a1 b0' b1', mul_bd b0 b1 d0' d1', mul_bd c0 c1 a0' a1', mul_bd d0 d1 c0' c1', mul_bd c0 c1 b0' b1', mul_bd d0 d1 d0' d1'⟩
set_option maxHeartbeats 1000000 in
theorem l01Times_ok (p q r s p' q' r' s' : Int) (w : World) (h : E24 p q r s) (h' : E24 p' q' r' s') (h1 : entB (p * p' + q * r') = true) (h2 : entB (p * q' + q * s') = true) (h3 : entB (r * p' + s * r') = true) (h4 : entB (r * q' + s * s') = true) :
    Calls Tryz.prog 110 #[(.agg #[.int .i64 p, .int .i64 q, .int .i64 r, .int .i64 s]), (.agg #[.int .i64 p', .int .i64 q', .int .i64 r', .int .i64 s'])] w fun e w' => e = .returned (.tuple #[(.agg #[.int .i64 (p * p' + q * r'), .int .i64 (p * q' + q * s'), .int .i64 (r * p' + s * r'), .int .i64 (r * q' + s * s')]), .bool true]) ∧ Below w.heap.size w w' := by
  obtain ⟨⟨m10, m11⟩, ⟨m20, m21⟩, ⟨m30, m31⟩, ⟨m40, m41⟩, ⟨m50, m51⟩, ⟨m60, m61⟩, ⟨m70, m71⟩, ⟨m80, m81⟩⟩ := tBd h h'
  go_enter Tryz.func110, Tryz.ntmps110
  go_wp2_with fail
  refine (l01Entry_any _ _).mono ?_; rintro e w' ⟨rfl, rfl⟩
  go_wp2_with fail
  refine (l01Entry_any _ _).mono ?_; rintro e w' ⟨rfl, rfl⟩
  go_wp2_with fail
  refine (l01Entry_any _ _).mono ?_; rintro e w' ⟨rfl, rfl⟩
  go_wp2_with fail
  refine (l01Entry_any _ _).mono ?_; rintro e w' ⟨rfl, rfl⟩
  go_wp2_with fail
  refine bodyPost_ret (v := .tuple #[(.agg #[.int .i64 (p * p' + q * r'), .int .i64 (p * q' + q * s'), .int .i64 (r * p' + s * r'), .int .i64 (r * q' + s * s')]), .bool true]) (by simp [results, Tryz.results110, go_sem] <;> rfl) rfl ⟨rfl, by go_grown⟩
end Go.Proofs.YtjnkogkpdbgohaaGreatDoor
