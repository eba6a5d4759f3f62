/- Contracts: a matrix with small numbers and a form. -/
import Derived.Test.YtmpmphnlollkaaaC4
namespace Go.Proofs.Ytmpmphnlollkaaa
open Go.RowKit

theorem applied_noForm (a b c p q r s : Int) (w : World) (hF : isForm a b c = false) :
    Calls Try.prog 55 #[(.agg #[.int .i64 a, .int .i64 b, .int .i64 c]), (.agg #[.int .i64 p, .int .i64 q, .int .i64 r, .int .i64 s])] w fun e w' => e = .returned (.tuple #[(.agg #[.int .i64 0, .int .i64 0, .int .i64 0]), (.int .i64 1)]) ∧ Below w.heap.size w w' := by
  go_enter Try.func55, Try.ntmps55
  go_wp2_with fail
  refine (IsForm_any _ _ _ _).mono ?_; rintro e w1 ⟨rfl, hb1⟩
  obtain ⟨hc1, hf1⟩ := bcell hb1
  have hB : Below w.heap.size w w1 := bfin (by go_grown) hb1
  go_wp2_with fail
  refine bodyPost_ret (v := .tuple #[(.agg #[.int .i64 0, .int .i64 0, .int .i64 0]), (.int .i64 1)]) (by simp [results, Try.results55, go_sem, hc1] <;> rfl) rfl ⟨rfl, by go_grown⟩
theorem applied_noMat (a b c p q r s : Int) (w : World) (hF : isForm a b c = true) (hM : isMat p q r s = false) :
    Calls Try.prog 55 #[(.agg #[.int .i64 a, .int .i64 b, .int .i64 c]), (.agg #[.int .i64 p, .int .i64 q, .int .i64 r, .int .i64 s])] w fun e w' => e = .returned (.tuple #[(.agg #[.int .i64 0, .int .i64 0, .int .i64 0]), (.int .i64 1)]) ∧ Below w.heap.size w w' := by
  go_enter Try.func55, Try.ntmps55
  go_wp2_with fail
  refine (IsForm_any _ _ _ _).mono ?_; rintro e w1 ⟨rfl, hb1⟩
  obtain ⟨hc1, hf1⟩ := bcell hb1
  go_wp2_with fail
  refine (IsMatrix_any _ _ _ _ _).mono ?_; rintro e w2 ⟨rfl, hb2⟩
  replace hb2 := bstep hb1 hb2
  clear hc1 hf1 hb1
  obtain ⟨hc1, hf1⟩ := bcell hb2
  have hB : Below w.heap.size w w2 := bfin (by go_grown) hb2
  go_wp2_with fail
  refine bodyPost_ret (v := .tuple #[(.agg #[.int .i64 0, .int .i64 0, .int .i64 0]), (.int .i64 1)]) (by simp [results, Try.results55, go_sem, hc1] <;> rfl) rfl ⟨rfl, by go_grown⟩
set_option maxHeartbeats 1000000 in
theorem applied_far (a b c p q r s : Int) (w : World) (hF : isForm a b c = true) (hM : isMat p q r s = true) (hS : smallM p q r s = false) :
    Calls Try.prog 55 #[(.agg #[.int .i64 a, .int .i64 b, .int .i64 c]), (.agg #[.int .i64 p, .int .i64 q, .int .i64 r, .int .i64 s])] w fun e w' => e = .returned (.tuple #[(.agg #[.int .i64 0, .int .i64 0, .int .i64 0]), (.int .i64 2)]) ∧ Below w.heap.size w w' := by
  obtain ⟨p0, p1, q0, q1, r0, r1, s0, s1, _⟩ := isMat_iff.1 hM
  have HS := Lib.hid (smallM_no.1 hS)
  clear hS
  go_enter Try.func55, Try.ntmps55
  go_wp2_with fail
  refine (IsForm_any _ _ _ _).mono ?_; rintro e w1 ⟨rfl, hb1⟩
  obtain ⟨hc1, hf1⟩ := bcell hb1
  go_wp2_with fail
  refine (IsMatrix_any _ _ _ _ _).mono ?_; rintro e w2 ⟨rfl, hb2⟩
  replace hb2 := bstep hb1 hb2
  clear hc1 hf1 hb1
  obtain ⟨hc1, hf1⟩ := bcell hb2
  have hB : Below w.heap.size w w2 := bfin (by go_grown) hb2
  obtain ⟨hz0, hz1, hz2⟩ : w.heap.size < w2.heap.size ∧ w.heap.size + 1 < w2.heap.size ∧ w.heap.size + 1 + 1 < w2.heap.size := by have := hb2.size; simp at this; omega
  go_wp2_with fail
  refine wp_region_ext (by kernel_rfl) (by kernel_rfl) ?_
  repeat (go_big_quiet_step ((go_at_call 82; refine Calls.ext_same (size_any _ _ (by omega) (by omega)))))
  refine wpQuiet_nil ?_
  intro w3 hb3
  replace hb3 := bstep hb2 hb3
  clear hc1 hf1 hb2 hB
  obtain ⟨hc1, hf1⟩ := bcell hb3
  have hB : Below w.heap.size w w3 := bfin (by go_grown) hb3
  go_wp2_with fail
  all_goals first
    | (exfalso; have := HS.out; omega)
    | refine bodyPost_ret (v := .tuple #[(.agg #[.int .i64 0, .int .i64 0, .int .i64 0]), (.int .i64 2)]) (by simp [results, Try.results55, go_sem, hc1] <;> rfl) rfl ⟨rfl, by go_grown⟩
set_option maxHeartbeats 1000000 in
theorem applied_ok (a b c p q r s : Int) (w : World) (hF : isForm a b c = true) (hM : isMat p q r s = true) (hS : smallM p q r s = true) :
    Calls Try.prog 55 #[(.agg #[.int .i64 a, .int .i64 b, .int .i64 c]), (.agg #[.int .i64 p, .int .i64 q, .int .i64 r, .int .i64 s])] w fun e w' => e = .returned (.tuple #[(.agg #[.int .i64 (formAt a b c p r), .int .i64 (formMid a b c p q r s), .int .i64 (formAt a b c q s)]), (.int .i64 0)]) ∧ Below w.heap.size w w' := by
  obtain ⟨⟨p0, p1⟩, ⟨q0, q1⟩, ⟨r0, r1⟩, s0, s1⟩ := smallM_iff.1 hS
  clear hS
  go_enter Try.func55, Try.ntmps55
  go_wp2_with fail
  refine (IsForm_any _ _ _ _).mono ?_; rintro e w1 ⟨rfl, hb1⟩
  obtain ⟨hc1, hf1⟩ := bcell hb1
  go_wp2_with fail
  refine (IsMatrix_any _ _ _ _ _).mono ?_; rintro e w2 ⟨rfl, hb2⟩
  replace hb2 := bstep hb1 hb2
  clear hc1 hf1 hb1
  obtain ⟨hc1, hf1⟩ := bcell hb2
  obtain ⟨hz0, hz1, hz2⟩ : w.heap.size < w2.heap.size ∧ w.heap.size + 1 < w2.heap.size ∧ w.heap.size + 1 + 1 < w2.heap.size := by have := hb2.size; simp at this; omega
  go_wp2_with fail
  refine wp_region_ext (by kernel_rfl) (by kernel_rfl) ?_
  repeat (go_big_quiet_step ((go_at_call 82; refine Calls.ext_same (size_any _ _ (by omega) (by omega)))))
  refine wpQuiet_nil ?_
  intro w3 hb3
  replace hb3 := bstep hb2 hb3
  clear hc1 hf1 hb2 hz0 hz1 hz2
  obtain ⟨hc1, hf1⟩ := bcell hb3
  go_wp2_with fail
  all_goals first
    | (exfalso; omega)
    | skip
  all_goals
    refine (apply_any _ _ _ _ _ _ _ _ (small_of hF) p0 p1 r0 r1 (by omega) (by omega) (by omega) (by omega)).mono ?_; rintro e w4 ⟨rfl, hb4⟩
    replace hb4 := bstep hb3 hb4
    clear hc1 hf1 hb3
    obtain ⟨hc1, hf1⟩ := bcell hb4
    have hB : Below w.heap.size w w4 := bfin (by go_grown) hb4
    go_wp2_with fail
    refine bodyPost_ret (v := .tuple #[(.agg #[.int .i64 (formAt a b c p r), .int .i64 (formMid a b c p q r s), .int .i64 (formAt a b c q s)]), (.int .i64 0)]) (by simp [results, Try.results55, go_sem, hc1] <;> rfl) rfl ⟨rfl, by go_grown⟩
end Go.Proofs.Ytmpmphnlollkaaa
