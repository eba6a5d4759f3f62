/- Contracts: matrices. -/
import Derived.Test.YtencfmipplgnkaaC1
namespace Go.Proofs.Ytencfmipplgnkaa
open Go.RowKit

set_option maxRecDepth 100000 in
theorem eqMat (a b c d a' b' c' d' : Int) (w : World) : (Op.equalIn 10000 40 (.agg #[.int .i64 a, .int .i64 b, .int .i64 c, .int .i64 d]) (.agg #[.int .i64 a', .int .i64 b', .int .i64 c', .int .i64 d'])).run Try.prog w = .ok (a == a' && (b == b' && (c == c' && d == d'))) w :=
  run_equalIn_arr4 Try.underlying40 ⟨_, rfl⟩ Try.underlying2 (by kernel_rfl) (fun x y z u w => ⟨by kernel_rfl, by kernel_rfl, by kernel_rfl, by kernel_rfl⟩) a b c d a' b' c' d' w
attribute [local go_sem] eqMat

theorem size_any (n : Int) (w : World) (h0 : -9000000000000000000 ≤ n) (h1 : n ≤ 9000000000000000000) :
    Calls Try.prog 134 #[(.int .i64 n)] w fun e w' => e = .returned (.int .i64 ((n.natAbs : Int))) ∧ w = w' := by
  by_cases h : n < 0
  all_goals
    go_enter Try.func134, Try.ntmps134
    go_wp2
    go_ret
    exact ⟨ret_int (by omega), rfl⟩
theorem trace_any (a b c d : Int) (w : World) (h : IsMat a b c d) :
    Calls Try.prog 68 #[(.agg #[.int .i64 a, .int .i64 b, .int .i64 c, .int .i64 d])] w fun e w' => e = .returned (.int .i64 (a + d)) ∧ Below w.heap.size w w' := by
  obtain ⟨h1, h2, _, _, _, _, h3, h4, _⟩ := h
  go_enter Try.func68, Try.ntmps68
  go_wp2
  go_ret
  exact ⟨rfl, by go_grown⟩
theorem l01Trace_any (a b c d : Int) (w : World) (h : IsMat a b c d) :
    Calls Try.prog 113 #[(.agg #[.int .i64 a, .int .i64 b, .int .i64 c, .int .i64 d])] w fun e w' => e = .returned (.int .i64 (a + d)) ∧ Below w.heap.size w w' := by
  obtain ⟨h1, h2, _, _, _, _, h3, h4, _⟩ := h
  go_enter Try.func113, Try.ntmps113
  go_wp2
  go_ret
  exact ⟨rfl, by go_grown⟩
theorem identity_any (w : World) :
    Calls Try.prog 143 #[] w fun e w' => e = .returned (.agg #[.int .i64 1, .int .i64 0, .int .i64 0, .int .i64 1]) ∧ Below w.heap.size w w' := by
  go_enter Try.func143, Try.ntmps143
  go_wp2
  go_returns
  exact ⟨rfl, by go_grown⟩
theorem negative_any (a b c d : Int) (w : World) (ha : -9000000000000000000 ≤ a) (ha' : a ≤ 9000000000000000000) (hb : -9000000000000000000 ≤ b) (hb' : b ≤ 9000000000000000000)
    (hc : -9000000000000000000 ≤ c) (hc' : c ≤ 9000000000000000000) (hd : -9000000000000000000 ≤ d) (hd' : d ≤ 9000000000000000000) :
    Calls Try.prog 69 #[(.agg #[.int .i64 a, .int .i64 b, .int .i64 c, .int .i64 d])] w fun e w' => e = .returned (.agg #[.int .i64 (-a), .int .i64 (-b), .int .i64 (-c), .int .i64 (-d)]) ∧ Below w.heap.size w w' := by
  go_enter Try.func69, Try.ntmps69
  go_wp2
  go_returns
  exact ⟨rfl, by go_grown⟩

theorem allB4 (a b c d : Int) : (allB 4 fun i => entB (if i = 0 then a else if i = 1 then b else if i = 2 then c else d)) = (entB a && (entB b && (entB c && entB d))) := by
  simp [allB, List.range_succ]
theorem IsMatrix_any (a b c d : Int) (w : World) :
    Calls Try.prog 114 #[(.agg #[.int .i64 a, .int .i64 b, .int .i64 c, .int .i64 d])] w fun e w' => e = .returned (.bool (isMat a b c d)) ∧ Below w.heap.size w w' := by
  cases he : (entB a && (entB b && (entB c && entB d)))
  · have HE := Lib.hid he
    go_enter Try.func114, Try.ntmps114
    go_wp2_with (go_at_call 100; refine (areEntries_any _ _ _ 4 (fun i => if i = 0 then a else if i = 1 then b else if i = 2 then c else d) _ (by omega) (by intro i hi; rcases (show i = 0 ∨ i = 1 ∨ i = 2 ∨ i = 3 by omega) with rfl | rfl | rfl | rfl <;> simp)).mono ?_; rw [allB4, HE.out]; rintro e w' ⟨rfl, rfl⟩)
    go_ret
    exact ⟨ret_bool (by have := HE.out; simp only [isMat]; revert this; cases entB a <;> cases entB b <;> cases entB c <;> cases entB d <;> simp), by go_grown⟩
  · have HE := Lib.hid he
    simp only [Bool.and_eq_true, entB_iff] at he
    obtain ⟨⟨a0, a1⟩, ⟨b0, b1⟩, ⟨c0, c1⟩, d0, d1⟩ := he
    obtain ⟨x0, x1⟩ := mul_bd (a := a) (b := d) (A := 1000000000) (B := 1000000000) a0 a1 d0 d1
    obtain ⟨y0, y1⟩ := mul_bd (a := b) (b := c) (A := 1000000000) (B := 1000000000) b0 b1 c0 c1
    go_enter Try.func114, Try.ntmps114
    go_wp2_with (go_at_call 100; refine (areEntries_any _ _ _ 4 (fun i => if i = 0 then a else if i = 1 then b else if i = 2 then c else d) _ (by omega) (by intro i hi; rcases (show i = 0 ∨ i = 1 ∨ i = 2 ∨ i = 3 by omega) with rfl | rfl | rfl | rfl <;> simp)).mono ?_; rw [allB4, HE.out]; rintro e w' ⟨rfl, rfl⟩)
    go_ret
    exact ⟨ret_bool (by have := HE.out; simp only [Bool.and_eq_true] at this; obtain ⟨p, q, r, s⟩ := this; simp [isMat, p, q, r, s]), by go_grown⟩
theorem l01Is_any (a b c d : Int) (w : World) :
    Calls Try.prog 60 #[(.agg #[.int .i64 a, .int .i64 b, .int .i64 c, .int .i64 d])] w fun e w' => e = .returned (.bool (isMat a b c d)) ∧ Below w.heap.size w w' := by
  cases ha : entB a
  · go_enter Try.func60, Try.ntmps60
    go_wp2_with (go_at_call 94; refine (l01Entry_any _ _).mono ?_; rintro e w' ⟨rfl, rfl⟩)
    go_ret
    exact ⟨ret_bool (by simp [isMat, ha]), by go_grown⟩
  cases hb : entB b
  · go_enter Try.func60, Try.ntmps60
    go_wp2_with (go_at_call 94; refine (l01Entry_any _ _).mono ?_; rintro e w' ⟨rfl, rfl⟩)
    go_ret
    exact ⟨ret_bool (by simp [isMat, hb]), by go_grown⟩
  cases hc : entB c
  · go_enter Try.func60, Try.ntmps60
    go_wp2_with (go_at_call 94; refine (l01Entry_any _ _).mono ?_; rintro e w' ⟨rfl, rfl⟩)
    go_ret
    exact ⟨ret_bool (by simp [isMat, hc]), by go_grown⟩
  cases hd : entB d
  · go_enter Try.func60, Try.ntmps60
    go_wp2_with (go_at_call 94; refine (l01Entry_any _ _).mono ?_; rintro e w' ⟨rfl, rfl⟩)
    go_ret
    exact ⟨ret_bool (by simp [isMat, hd]), by go_grown⟩
  obtain ⟨x0, x1⟩ := mul_bd (a := a) (b := d) (A := 1000000000) (B := 1000000000) (entB_iff.1 ha).1 (entB_iff.1 ha).2 (entB_iff.1 hd).1 (entB_iff.1 hd).2
  obtain ⟨y0, y1⟩ := mul_bd (a := b) (b := c) (A := 1000000000) (B := 1000000000) (entB_iff.1 hb).1 (entB_iff.1 hb).2 (entB_iff.1 hc).1 (entB_iff.1 hc).2
  go_enter Try.func60, Try.ntmps60
  go_wp2_with (go_at_call 94; refine (l01Entry_any _ _).mono ?_; rintro e w' ⟨rfl, rfl⟩)
  go_ret
  exact ⟨ret_bool (by simp [isMat, ha, hb, hc, hd]), by go_grown⟩
end Go.Proofs.Ytencfmipplgnkaa
