/- Contracts: products of two matrices, as the specification makes them. -/
import Derived.Test.YtjnkogkpdbgohaaGreatDoorC38
namespace Go.Proofs.YtjnkogkpdbgohaaGreatDoor
open Go.RowKit
theorem mulM_mat {m n : M4} (h : IsMat m.p m.q m.r m.s) (h' : IsMat n.p n.q n.r n.s) (he : entQ (mulM m n) = true) : IsMat (mulM m n).p (mulM m n).q (mulM m n).r (mulM m n).s := by
  obtain ⟨⟨a0, a1⟩, ⟨b0, b1⟩, ⟨c0, c1⟩, d0, d1⟩ := entM_iff.1 he
  refine ⟨a0, a1, b0, b1, c0, c1, d0, d1, ?_⟩
  have e1 := h.det
  have e2 := h'.det
  unfold mulM
  simp only
  grind
theorem prodF_2 {m n : M4} (hm : IsMat m.p m.q m.r m.s) : prodF [m, n] ⟨1, 0, 0, 1⟩ = if entQ (mulM m n) = true then some (mulM m n) else none := by
  have e : mulM ⟨1, 0, 0, 1⟩ m = m := by simp [mulM]
  have he : entQ m = true := entM_mat hm
  simp [prodF, e, he]
set_option maxHeartbeats 1000000 in
theorem l01Times_no (m n : M4) (w : World) (h : E24 m.p m.q m.r m.s) (h' : E24 n.p n.q n.r n.s) (he : entQ (mulM m n) = false) :
    Calls Tryz.prog 110 #[(.agg #[.int .i64 m.p, .int .i64 m.q, .int .i64 m.r, .int .i64 m.s]), (.agg #[.int .i64 n.p, .int .i64 n.q, .int .i64 n.r, .int .i64 n.s])] w fun e w' => e = .returned (.tuple #[(.agg #[.int .i64 0, .int .i64 0, .int .i64 0, .int .i64 0]), .bool false]) ∧ Below w.heap.size w w' := by
  obtain ⟨⟨m10, m11⟩, ⟨m20, m21⟩, ⟨m30, m31⟩, ⟨m40, m41⟩, ⟨m50, m51⟩, ⟨m60, m61⟩, ⟨m70, m71⟩, ⟨m80, m81⟩⟩ := tBd h h'
  unfold entQ entM mulM at he
  simp only at he
  have H0 := Lib.hid (fun W => l01Entry_any (m.p * n.p + m.q * n.r) W)
  have H1 := Lib.hid (fun W => l01Entry_any (m.p * n.q + m.q * n.s) W)
  have H2 := Lib.hid (fun W => l01Entry_any (m.r * n.p + m.s * n.r) W)
  have H3 := Lib.hid (fun W => l01Entry_any (m.r * n.q + m.s * n.s) W)
  cases e0 : entB (m.p * n.p + m.q * n.r)
  · rw [e0] at H0
    go_enter Tryz.func110, Tryz.ntmps110
    go_wp2_with fail
    refine (H0.out _).mono ?_; rintro e w' ⟨rfl, rfl⟩
    go_wp2_with fail
    refine bodyPost_ret (v := .tuple #[(.agg #[.int .i64 0, .int .i64 0, .int .i64 0, .int .i64 0]), .bool false]) (by simp [results, Tryz.results110, go_sem] <;> rfl) rfl ⟨rfl, by go_grown⟩
  cases e1 : entB (m.p * n.q + m.q * n.s)
  · rw [e0] at H0
    rw [e1] at H1
    go_enter Tryz.func110, Tryz.ntmps110
    go_wp2_with fail
    refine (H0.out _).mono ?_; rintro e w' ⟨rfl, rfl⟩
    go_wp2_with fail
    refine (H1.out _).mono ?_; rintro e w' ⟨rfl, rfl⟩
    go_wp2_with fail
    refine bodyPost_ret (v := .tuple #[(.agg #[.int .i64 0, .int .i64 0, .int .i64 0, .int .i64 0]), .bool false]) (by simp [results, Tryz.results110, go_sem] <;> rfl) rfl ⟨rfl, by go_grown⟩
  cases e2 : entB (m.r * n.p + m.s * n.r)
  · rw [e0] at H0
    rw [e1] at H1
    rw [e2] at H2
    go_enter Tryz.func110, Tryz.ntmps110
    go_wp2_with fail
    refine (H0.out _).mono ?_; rintro e w' ⟨rfl, rfl⟩
    go_wp2_with fail
    refine (H1.out _).mono ?_; rintro e w' ⟨rfl, rfl⟩
    go_wp2_with fail
    refine (H2.out _).mono ?_; rintro e w' ⟨rfl, rfl⟩
    go_wp2_with fail
    refine bodyPost_ret (v := .tuple #[(.agg #[.int .i64 0, .int .i64 0, .int .i64 0, .int .i64 0]), .bool false]) (by simp [results, Tryz.results110, go_sem] <;> rfl) rfl ⟨rfl, by go_grown⟩
  · rw [e0, e1, e2] at he
    simp only [Bool.true_and] at he
    rw [e0] at H0
    rw [e1] at H1
    rw [e2] at H2
    rw [he] at H3
    go_enter Tryz.func110, Tryz.ntmps110
    go_wp2_with fail
    refine (H0.out _).mono ?_; rintro e w' ⟨rfl, rfl⟩
    go_wp2_with fail
    refine (H1.out _).mono ?_; rintro e w' ⟨rfl, rfl⟩
    go_wp2_with fail
    refine (H2.out _).mono ?_; rintro e w' ⟨rfl, rfl⟩
    go_wp2_with fail
    refine (H3.out _).mono ?_; rintro e w' ⟨rfl, rfl⟩
    go_wp2_with fail
    refine bodyPost_ret (v := .tuple #[(.agg #[.int .i64 0, .int .i64 0, .int .i64 0, .int .i64 0]), .bool false]) (by simp [results, Tryz.results110, go_sem] <;> rfl) rfl ⟨rfl, by go_grown⟩
theorem l01Times_yes (m n : M4) (w : World) (h : E24 m.p m.q m.r m.s) (h' : E24 n.p n.q n.r n.s) (he : entQ (mulM m n) = true) :
    Calls Tryz.prog 110 #[(.agg #[.int .i64 m.p, .int .i64 m.q, .int .i64 m.r, .int .i64 m.s]), (.agg #[.int .i64 n.p, .int .i64 n.q, .int .i64 n.r, .int .i64 n.s])] w fun e w' => e = .returned (.tuple #[(.agg #[.int .i64 ((mulM m n).p), .int .i64 ((mulM m n).q), .int .i64 ((mulM m n).r), .int .i64 ((mulM m n).s)]), .bool true]) ∧ Below w.heap.size w w' := by
  simp only [entQ, entM, Bool.and_eq_true] at he
  exact l01Times_ok m.p m.q m.r m.s n.p n.q n.r n.s w h h' he.1 he.2.1 he.2.2.1 he.2.2.2
end Go.Proofs.YtjnkogkpdbgohaaGreatDoor
