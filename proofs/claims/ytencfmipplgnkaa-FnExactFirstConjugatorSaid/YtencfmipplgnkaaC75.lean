/- Contracts: the first conjugator; the law (written by gen_c75.py). -/
import Derived.Test.YtencfmipplgnkaaC74
import Derived.Test.YtencfmipplgnkaaC18
import Derived.Test.YtencfmipplgnkaaC3
namespace Go.Proofs.Ytencfmipplgnkaa
open Go.RowKit
attribute [local go_sem] eqMat
structure Cells8 (w : World) (bk : Nat) (a b c d a' b' c' d' : Int) : Prop where
  h0 : w.cell? ⟨bk, 0, none⟩ = some (.int .i64 a)
  h1 : w.cell? ⟨bk, 1, none⟩ = some (.int .i64 b)
  h2 : w.cell? ⟨bk, 2, none⟩ = some (.int .i64 c)
  h3 : w.cell? ⟨bk, 3, none⟩ = some (.int .i64 d)
  h4 : w.cell? ⟨bk, 4, none⟩ = some (.int .i64 a')
  h5 : w.cell? ⟨bk, 5, none⟩ = some (.int .i64 b')
  h6 : w.cell? ⟨bk, 6, none⟩ = some (.int .i64 c')
  h7 : w.cell? ⟨bk, 7, none⟩ = some (.int .i64 d')
  lt : bk < w.heap.size
set_option maxRecDepth 100000 in
set_option maxHeartbeats 1000000 in
theorem areMatrices_2 (bk : Nat) (a b c d a' b' c' d' : Int) (w : World) (h : Cells8 w bk a b c d a' b' c' d') :
    Calls Try.prog 64 #[.slice (some ⟨bk, 0, none⟩) 2 2] w fun e w' => e = .returned (.bool (isMat a b c d && isMat a' b' c' d')) ∧ Below w.heap.size w w' := by
  obtain ⟨h0, h1, h2, h3, h4, h5, h6, h7, hlt⟩ := h
  cases hM : isMat a b c d
  · simp only [Bool.false_and]
    go_enter Try.func64, Try.ntmps64
    go_wp2_with fail
    refine wp_loop_rounds 3 ?_
    rw [rounds_succ]
    go_wp2_with fail
    refine (IsMatrix_any _ _ _ _ _).mono ?_; rintro e w1 ⟨rfl, hb1⟩
    obtain ⟨hc1, hf1⟩ := bcell hb1
    have hB1 : Below w.heap.size w w1 := bfin (by go_grown) hb1
    go_wp2_with fail
    go_ret
    exact ⟨rfl, by go_grown⟩
  cases hN : isMat a' b' c' d'
  · simp only [Bool.and_false]
    go_enter Try.func64, Try.ntmps64
    go_wp2_with fail
    refine wp_loop_rounds 3 ?_
    rw [rounds_succ]
    go_wp2_with fail
    refine (IsMatrix_any _ _ _ _ _).mono ?_; rintro e w1 ⟨rfl, hb1⟩
    obtain ⟨hc1, hf1⟩ := bcell hb1
    have hz1_0 : bk < w1.heap.size := by have := hb1.size; (try simp at this); omega
    go_wp2_with fail
    rw [rounds_succ]
    have hB1 : Below w.heap.size w w1 := bfin (by go_grown) hb1
    go_wp2_with fail
    refine (IsMatrix_any _ _ _ _ _).mono ?_; rintro e w2 ⟨rfl, hb2⟩
    obtain ⟨hc2, hf2⟩ := bcell hb2
    have hS1 := hB1.size
    have hB2 : Below w.heap.size w w2 := bfin (by go_grown) hb2
    go_wp2_with fail
    go_ret
    exact ⟨rfl, by go_grown⟩
  · simp only [Bool.and_self]
    go_enter Try.func64, Try.ntmps64
    go_wp2_with fail
    refine wp_loop_rounds 3 ?_
    rw [rounds_succ]
    go_wp2_with fail
    refine (IsMatrix_any _ _ _ _ _).mono ?_; rintro e w1 ⟨rfl, hb1⟩
    obtain ⟨hc1, hf1⟩ := bcell hb1
    have hz1_0 : bk < w1.heap.size := by have := hb1.size; (try simp at this); omega
    go_wp2_with fail
    rw [rounds_succ]
    have hB1 : Below w.heap.size w w1 := bfin (by go_grown) hb1
    go_wp2_with fail
    refine (IsMatrix_any _ _ _ _ _).mono ?_; rintro e w2 ⟨rfl, hb2⟩
    obtain ⟨hc2, hf2⟩ := bcell hb2
    go_wp2_with fail
    rw [rounds_succ]
    have hS1 := hB1.size
    have hB2 : Below w.heap.size w w2 := bfin (by go_grown) hb2
    go_wp2_with fail
    go_ret
    exact ⟨rfl, by go_grown⟩
def leadB (a b c d a' b' c' d' x y z u : Int) : Bool := x * a + y * c == a' * x + b' * z && (x * b + y * d == a' * y + b' * u && (z * a + u * c == c' * x + d' * z && z * b + u * d == c' * y + d' * u))
set_option maxRecDepth 100000 in
set_option maxHeartbeats 4000000 in
theorem l04Leads_any (a b c d a' b' c' d' x y z u : Int) (w : World) (hm : E24 a b c d) (hn : E24 a' b' c' d') (hg : E24 x y z u) :
    Calls Try.prog 63 #[(.agg #[.int .i64 a, .int .i64 b, .int .i64 c, .int .i64 d]), (.agg #[.int .i64 a', .int .i64 b', .int .i64 c', .int .i64 d']), (.agg #[.int .i64 x, .int .i64 y, .int .i64 z, .int .i64 u])] w fun e w' => e = .returned (.bool (leadB a b c d a' b' c' d' x y z u)) ∧ Below w.heap.size w w' := by
  obtain ⟨⟨m10, m11⟩, ⟨m20, m21⟩, ⟨m30, m31⟩, ⟨m40, m41⟩, ⟨m50, m51⟩, ⟨m60, m61⟩, ⟨m70, m71⟩, ⟨m80, m81⟩⟩ := tBd hg hm
  obtain ⟨⟨l10, l11⟩, ⟨l20, l21⟩, ⟨l30, l31⟩, ⟨l40, l41⟩, ⟨l50, l51⟩, ⟨l60, l61⟩, ⟨l70, l71⟩, ⟨l80, l81⟩⟩ := tBd hn hg
  clear hm hn hg
  unfold leadB
  cases e0 : (x * a + y * c == a' * x + b' * z)
  · have n0 : (x * a + y * c != a' * x + b' * z) = true := by simpa using e0
    simp only [Bool.false_and]
    clear e0
    go_enter Try.func63, Try.ntmps63
    go_wp2_with fail
    refine wp_loop_rounds 5 ?_
    rw [rounds_succ]
    go_wp2_with fail
    refine wp_region_ext (by kernel_rfl) (by kernel_rfl) ?_
    repeat (go_big_quiet_step (fail))
    refine wpQuiet_nil ?_
    intro w1 hb1
    obtain ⟨hc1, hf1⟩ := bcell hb1
    obtain ⟨hz0, hz1, hz2⟩ : w.heap.size < w1.heap.size ∧ w.heap.size + 1 < w1.heap.size ∧ w.heap.size + 1 + 1 < w1.heap.size := by have := hb1.size; (try simp at this); omega
    go_wp2_with fail
    have hB1 : Below w.heap.size w w1 := bfin (by go_grown) hb1
    go_ret
    exact ⟨rfl, by go_grown⟩
  have n0 : (x * a + y * c != a' * x + b' * z) = false := by simpa using e0
  cases e1 : (x * b + y * d == a' * y + b' * u)
  · have n1 : (x * b + y * d != a' * y + b' * u) = true := by simpa using e1
    simp only [Bool.false_and, Bool.and_false]
    clear e0 e1
    go_enter Try.func63, Try.ntmps63
    go_wp2_with fail
    refine wp_loop_rounds 5 ?_
    rw [rounds_succ]
    go_wp2_with fail
    refine wp_region_ext (by kernel_rfl) (by kernel_rfl) ?_
    repeat (go_big_quiet_step (fail))
    refine wpQuiet_nil ?_
    intro w1 hb1
    obtain ⟨hc1, hf1⟩ := bcell hb1
    obtain ⟨hz0, hz1, hz2⟩ : w.heap.size < w1.heap.size ∧ w.heap.size + 1 < w1.heap.size ∧ w.heap.size + 1 + 1 < w1.heap.size := by have := hb1.size; (try simp at this); omega
    go_wp2_with fail
    rw [rounds_succ]
    go_wp2_with fail
    refine wp_region_ext (by kernel_rfl) (by kernel_rfl) ?_
    repeat (go_big_quiet_step (fail))
    refine wpQuiet_nil ?_
    intro w2 hb2
    replace hb2 := bstep hb1 hb2
    clear hc1 hf1 hb1
    obtain ⟨hc2, hf2⟩ := bcell hb2
    obtain ⟨hz0, hz1, hz2⟩ : w.heap.size < w2.heap.size ∧ w.heap.size + 1 < w2.heap.size ∧ w.heap.size + 1 + 1 < w2.heap.size := by have := hb2.size; (try simp at this); omega
    go_wp2_with fail
    have hB2 : Below w.heap.size w w2 := bfin (by go_grown) hb2
    go_ret
    exact ⟨rfl, by go_grown⟩
  have n1 : (x * b + y * d != a' * y + b' * u) = false := by simpa using e1
  cases e2 : (z * a + u * c == c' * x + d' * z)
  · have n2 : (z * a + u * c != c' * x + d' * z) = true := by simpa using e2
    simp only [Bool.false_and, Bool.and_false]
    clear e0 e1 e2
    go_enter Try.func63, Try.ntmps63
    go_wp2_with fail
    refine wp_loop_rounds 5 ?_
    rw [rounds_succ]
    go_wp2_with fail
    refine wp_region_ext (by kernel_rfl) (by kernel_rfl) ?_
    repeat (go_big_quiet_step (fail))
    refine wpQuiet_nil ?_
    intro w1 hb1
    obtain ⟨hc1, hf1⟩ := bcell hb1
    obtain ⟨hz0, hz1, hz2⟩ : w.heap.size < w1.heap.size ∧ w.heap.size + 1 < w1.heap.size ∧ w.heap.size + 1 + 1 < w1.heap.size := by have := hb1.size; (try simp at this); omega
    go_wp2_with fail
    rw [rounds_succ]
    go_wp2_with fail
    refine wp_region_ext (by kernel_rfl) (by kernel_rfl) ?_
    repeat (go_big_quiet_step (fail))
    refine wpQuiet_nil ?_
    intro w2 hb2
    replace hb2 := bstep hb1 hb2
    clear hc1 hf1 hb1
    obtain ⟨hc2, hf2⟩ := bcell hb2
    obtain ⟨hz0, hz1, hz2⟩ : w.heap.size < w2.heap.size ∧ w.heap.size + 1 < w2.heap.size ∧ w.heap.size + 1 + 1 < w2.heap.size := by have := hb2.size; (try simp at this); omega
    go_wp2_with fail
    rw [rounds_succ]
    go_wp2_with fail
    refine wp_region_ext (by kernel_rfl) (by kernel_rfl) ?_
    repeat (go_big_quiet_step (fail))
    refine wpQuiet_nil ?_
    intro w3 hb3
    replace hb3 := bstep hb2 hb3
    clear hc2 hf2 hb2
    obtain ⟨hc3, hf3⟩ := bcell hb3
    obtain ⟨hz0, hz1, hz2⟩ : w.heap.size < w3.heap.size ∧ w.heap.size + 1 < w3.heap.size ∧ w.heap.size + 1 + 1 < w3.heap.size := by have := hb3.size; (try simp at this); omega
    go_wp2_with fail
    have hB3 : Below w.heap.size w w3 := bfin (by go_grown) hb3
    go_ret
    exact ⟨rfl, by go_grown⟩
  have n2 : (z * a + u * c != c' * x + d' * z) = false := by simpa using e2
  cases e3 : (z * b + u * d == c' * y + d' * u)
  · have n3 : (z * b + u * d != c' * y + d' * u) = true := by simpa using e3
    simp only [Bool.and_false]
    clear e0 e1 e2 e3
    go_enter Try.func63, Try.ntmps63
    go_wp2_with fail
    refine wp_loop_rounds 5 ?_
    rw [rounds_succ]
    go_wp2_with fail
    refine wp_region_ext (by kernel_rfl) (by kernel_rfl) ?_
    repeat (go_big_quiet_step (fail))
    refine wpQuiet_nil ?_
    intro w1 hb1
    obtain ⟨hc1, hf1⟩ := bcell hb1
    obtain ⟨hz0, hz1, hz2⟩ : w.heap.size < w1.heap.size ∧ w.heap.size + 1 < w1.heap.size ∧ w.heap.size + 1 + 1 < w1.heap.size := by have := hb1.size; (try simp at this); omega
    go_wp2_with fail
    rw [rounds_succ]
    go_wp2_with fail
    refine wp_region_ext (by kernel_rfl) (by kernel_rfl) ?_
    repeat (go_big_quiet_step (fail))
    refine wpQuiet_nil ?_
    intro w2 hb2
    replace hb2 := bstep hb1 hb2
    clear hc1 hf1 hb1
    obtain ⟨hc2, hf2⟩ := bcell hb2
    obtain ⟨hz0, hz1, hz2⟩ : w.heap.size < w2.heap.size ∧ w.heap.size + 1 < w2.heap.size ∧ w.heap.size + 1 + 1 < w2.heap.size := by have := hb2.size; (try simp at this); omega
    go_wp2_with fail
    rw [rounds_succ]
    go_wp2_with fail
    refine wp_region_ext (by kernel_rfl) (by kernel_rfl) ?_
    repeat (go_big_quiet_step (fail))
    refine wpQuiet_nil ?_
    intro w3 hb3
    replace hb3 := bstep hb2 hb3
    clear hc2 hf2 hb2
    obtain ⟨hc3, hf3⟩ := bcell hb3
    obtain ⟨hz0, hz1, hz2⟩ : w.heap.size < w3.heap.size ∧ w.heap.size + 1 < w3.heap.size ∧ w.heap.size + 1 + 1 < w3.heap.size := by have := hb3.size; (try simp at this); omega
    go_wp2_with fail
    rw [rounds_succ]
    go_wp2_with fail
    refine wp_region_ext (by kernel_rfl) (by kernel_rfl) ?_
    repeat (go_big_quiet_step (fail))
    refine wpQuiet_nil ?_
    intro w4 hb4
    replace hb4 := bstep hb3 hb4
    clear hc3 hf3 hb3
    obtain ⟨hc4, hf4⟩ := bcell hb4
    obtain ⟨hz0, hz1, hz2⟩ : w.heap.size < w4.heap.size ∧ w.heap.size + 1 < w4.heap.size ∧ w.heap.size + 1 + 1 < w4.heap.size := by have := hb4.size; (try simp at this); omega
    go_wp2_with fail
    have hB4 : Below w.heap.size w w4 := bfin (by go_grown) hb4
    go_ret
    exact ⟨rfl, by go_grown⟩
  have n3 : (z * b + u * d != c' * y + d' * u) = false := by simpa using e3
  simp only [Bool.and_self]
  clear e0 e1 e2 e3
  go_enter Try.func63, Try.ntmps63
  go_wp2_with fail
  refine wp_loop_rounds 5 ?_
  rw [rounds_succ]
  go_wp2_with fail
  refine wp_region_ext (by kernel_rfl) (by kernel_rfl) ?_
  repeat (go_big_quiet_step (fail))
  refine wpQuiet_nil ?_
  intro w1 hb1
  obtain ⟨hc1, hf1⟩ := bcell hb1
  obtain ⟨hz0, hz1, hz2⟩ : w.heap.size < w1.heap.size ∧ w.heap.size + 1 < w1.heap.size ∧ w.heap.size + 1 + 1 < w1.heap.size := by have := hb1.size; (try simp at this); omega
  go_wp2_with fail
  rw [rounds_succ]
  go_wp2_with fail
  refine wp_region_ext (by kernel_rfl) (by kernel_rfl) ?_
  repeat (go_big_quiet_step (fail))
  refine wpQuiet_nil ?_
  intro w2 hb2
  replace hb2 := bstep hb1 hb2
  clear hc1 hf1 hb1
  obtain ⟨hc2, hf2⟩ := bcell hb2
  obtain ⟨hz0, hz1, hz2⟩ : w.heap.size < w2.heap.size ∧ w.heap.size + 1 < w2.heap.size ∧ w.heap.size + 1 + 1 < w2.heap.size := by have := hb2.size; (try simp at this); omega
  go_wp2_with fail
  rw [rounds_succ]
  go_wp2_with fail
  refine wp_region_ext (by kernel_rfl) (by kernel_rfl) ?_
  repeat (go_big_quiet_step (fail))
  refine wpQuiet_nil ?_
  intro w3 hb3
  replace hb3 := bstep hb2 hb3
  clear hc2 hf2 hb2
  obtain ⟨hc3, hf3⟩ := bcell hb3
  obtain ⟨hz0, hz1, hz2⟩ : w.heap.size < w3.heap.size ∧ w.heap.size + 1 < w3.heap.size ∧ w.heap.size + 1 + 1 < w3.heap.size := by have := hb3.size; (try simp at this); omega
  go_wp2_with fail
  rw [rounds_succ]
  go_wp2_with fail
  refine wp_region_ext (by kernel_rfl) (by kernel_rfl) ?_
  repeat (go_big_quiet_step (fail))
  refine wpQuiet_nil ?_
  intro w4 hb4
  replace hb4 := bstep hb3 hb4
  clear hc3 hf3 hb3
  obtain ⟨hc4, hf4⟩ := bcell hb4
  obtain ⟨hz0, hz1, hz2⟩ : w.heap.size < w4.heap.size ∧ w.heap.size + 1 < w4.heap.size ∧ w.heap.size + 1 + 1 < w4.heap.size := by have := hb4.size; (try simp at this); omega
  go_wp2_with fail
  rw [rounds_succ]
  go_wp2_with fail
  have hB4 : Below w.heap.size w w4 := bfin (by go_grown) hb4
  go_ret
  exact ⟨rfl, by go_grown⟩
end Go.Proofs.Ytencfmipplgnkaa
