/- Contracts: values, made forms, forms that are kept. -/
import Derived.Test.YtmpmphnlollkaaaC6
namespace Go.Proofs.Ytmpmphnlollkaaa
open Go.RowKit
attribute [local go_sem] eqForm3
theorem ValueAt_any (a b c x y : Int) (w : World) :
    Calls Try.prog 21 #[(.agg #[.int .i64 a, .int .i64 b, .int .i64 c]), (.int .i64 x), (.int .i64 y)] w fun e w' => e = .returned (.tuple #[(.int .i64 ((valAt a b c x y).1)), (.int .i64 ((valAt a b c x y).2))]) ∧ Below w.heap.size w w' := by
  cases hF : isForm a b c
  · rw [show valAt a b c x y = (0, 1) by simp [valAt, hF]]
    go_enter Try.func21, Try.ntmps21
    go_wp2_with fail
    refine (IsForm_any _ _ _ _).mono ?_; rintro e w1 ⟨rfl, hb1⟩
    obtain ⟨hc1, hf1⟩ := bcell hb1
    have hB : Below w.heap.size w w1 := bfin (by go_grown) hb1
    go_wp2_with fail
    refine bodyPost_ret (v := .tuple #[(.int .i64 0), (.int .i64 1)]) (by first | (simp [results, Try.results21, go_sem]; done) | (simp [results, Try.results21, go_sem, hc1] <;> rfl)) rfl ⟨rfl, by go_grown⟩
  cases hx : inB x (-1000) 1000
  · rw [show valAt a b c x y = (0, 2) by simp [valAt, hF, hx]]
    go_enter Try.func21, Try.ntmps21
    go_wp2_with fail
    refine (IsForm_any _ _ _ _).mono ?_; rintro e w1 ⟨rfl, hb1⟩
    obtain ⟨hc1, hf1⟩ := bcell hb1
    go_wp2_with fail
    refine (within_any _ _ _ _).mono ?_; rintro e w' ⟨rfl, rfl⟩
    have hB : Below w.heap.size w w1 := bfin (by go_grown) hb1
    go_wp2_with fail
    refine bodyPost_ret (v := .tuple #[(.int .i64 0), (.int .i64 2)]) (by first | (simp [results, Try.results21, go_sem]; done) | (simp [results, Try.results21, go_sem, hc1] <;> rfl)) rfl ⟨rfl, by go_grown⟩
  cases hy : inB y (-1000) 1000
  · rw [show valAt a b c x y = (0, 2) by simp [valAt, hF, hx, hy]]
    go_enter Try.func21, Try.ntmps21
    go_wp2_with fail
    refine (IsForm_any _ _ _ _).mono ?_; rintro e w1 ⟨rfl, hb1⟩
    obtain ⟨hc1, hf1⟩ := bcell hb1
    go_wp2_with fail
    refine (within_any _ _ _ _).mono ?_; rintro e w' ⟨rfl, rfl⟩
    go_wp2_with fail
    refine (within_any _ _ _ _).mono ?_; rintro e w' ⟨rfl, rfl⟩
    have hB : Below w.heap.size w w1 := bfin (by go_grown) hb1
    go_wp2_with fail
    refine bodyPost_ret (v := .tuple #[(.int .i64 0), (.int .i64 2)]) (by first | (simp [results, Try.results21, go_sem]; done) | (simp [results, Try.results21, go_sem, hc1] <;> rfl)) rfl ⟨rfl, by go_grown⟩
  rw [show valAt a b c x y = (formAt a b c x y, 0) by simp [valAt, hF, hx, hy]]
  have hx' := inB_iff.1 hx
  have hy' := inB_iff.1 hy
  go_enter Try.func21, Try.ntmps21
  go_wp2_with fail
  refine (IsForm_any _ _ _ _).mono ?_; rintro e w1 ⟨rfl, hb1⟩
  obtain ⟨hc1, hf1⟩ := bcell hb1
  go_wp2_with fail
  refine (within_any _ _ _ _).mono ?_; rintro e w' ⟨rfl, rfl⟩
  go_wp2_with fail
  refine (within_any _ _ _ _).mono ?_; rintro e w' ⟨rfl, rfl⟩
  go_wp2_with fail
  refine (at_any _ _ _ _ _ _ (small_of hF) (by omega) (by omega) (by omega) (by omega)).mono ?_; rintro e w2 ⟨rfl, hb2⟩
  replace hb2 := bstep hb1 hb2
  clear hc1 hf1 hb1
  obtain ⟨hc1, hf1⟩ := bcell hb2
  have hB : Below w.heap.size w w2 := bfin (by go_grown) hb2
  go_wp2_with fail
  refine bodyPost_ret (v := .tuple #[(.int .i64 (formAt a b c x y)), (.int .i64 0)]) (by first | (simp [results, Try.results21, go_sem]; done) | (simp [results, Try.results21, go_sem, hc1] <;> rfl)) rfl ⟨rfl, by go_grown⟩
theorem sValueAt_any (a b c x y : Int) (w : World) :
    Calls Try.prog 20 #[(.agg #[.int .i64 a, .int .i64 b, .int .i64 c]), (.int .i64 x), (.int .i64 y)] w fun e w' => e = .returned (.tuple #[(.int .i64 ((valAt a b c x y).1)), (.int .i64 ((valAt a b c x y).2))]) ∧ Below w.heap.size w w' := by
  cases hF : isForm a b c
  · rw [show valAt a b c x y = (0, 1) by simp [valAt, hF]]
    go_enter Try.func20, Try.ntmps20
    go_wp2_with fail
    refine (l05Is_any _ _ _ _).mono ?_; rintro e w1 ⟨rfl, hb1⟩
    obtain ⟨hc1, hf1⟩ := bcell hb1
    have hB : Below w.heap.size w w1 := bfin (by go_grown) hb1
    go_wp2_with fail
    refine bodyPost_ret (v := .tuple #[(.int .i64 0), (.int .i64 1)]) (by first | (simp [results, Try.results20, go_sem]; done) | (simp [results, Try.results20, go_sem, hc1] <;> rfl)) rfl ⟨rfl, by go_grown⟩
  cases hx : inB x (-1000) 1000
  · rw [show valAt a b c x y = (0, 2) by simp [valAt, hF, hx]]
    go_enter Try.func20, Try.ntmps20
    go_wp2_with fail
    refine (l05Is_any _ _ _ _).mono ?_; rintro e w1 ⟨rfl, hb1⟩
    obtain ⟨hc1, hf1⟩ := bcell hb1
    go_wp2_with fail
    refine (l01In_any _ _ _ _).mono ?_; rintro e w' ⟨rfl, rfl⟩
    have hB : Below w.heap.size w w1 := bfin (by go_grown) hb1
    go_wp2_with fail
    refine bodyPost_ret (v := .tuple #[(.int .i64 0), (.int .i64 2)]) (by first | (simp [results, Try.results20, go_sem]; done) | (simp [results, Try.results20, go_sem, hc1] <;> rfl)) rfl ⟨rfl, by go_grown⟩
  cases hy : inB y (-1000) 1000
  · rw [show valAt a b c x y = (0, 2) by simp [valAt, hF, hx, hy]]
    go_enter Try.func20, Try.ntmps20
    go_wp2_with fail
    refine (l05Is_any _ _ _ _).mono ?_; rintro e w1 ⟨rfl, hb1⟩
    obtain ⟨hc1, hf1⟩ := bcell hb1
    go_wp2_with fail
    refine (l01In_any _ _ _ _).mono ?_; rintro e w' ⟨rfl, rfl⟩
    go_wp2_with fail
    refine (l01In_any _ _ _ _).mono ?_; rintro e w' ⟨rfl, rfl⟩
    have hB : Below w.heap.size w w1 := bfin (by go_grown) hb1
    go_wp2_with fail
    refine bodyPost_ret (v := .tuple #[(.int .i64 0), (.int .i64 2)]) (by first | (simp [results, Try.results20, go_sem]; done) | (simp [results, Try.results20, go_sem, hc1] <;> rfl)) rfl ⟨rfl, by go_grown⟩
  rw [show valAt a b c x y = (formAt a b c x y, 0) by simp [valAt, hF, hx, hy]]
  have hx' := inB_iff.1 hx
  have hy' := inB_iff.1 hy
  go_enter Try.func20, Try.ntmps20
  go_wp2_with fail
  refine (l05Is_any _ _ _ _).mono ?_; rintro e w1 ⟨rfl, hb1⟩
  obtain ⟨hc1, hf1⟩ := bcell hb1
  go_wp2_with fail
  refine (l01In_any _ _ _ _).mono ?_; rintro e w' ⟨rfl, rfl⟩
  go_wp2_with fail
  refine (l01In_any _ _ _ _).mono ?_; rintro e w' ⟨rfl, rfl⟩
  go_wp2_with fail
  refine (l05Value_any _ _ _ _ _ _ (small_of hF) (by omega) (by omega) (by omega) (by omega)).mono ?_; rintro e w2 ⟨rfl, hb2⟩
  replace hb2 := bstep hb1 hb2
  clear hc1 hf1 hb1
  obtain ⟨hc1, hf1⟩ := bcell hb2
  have hB : Below w.heap.size w w2 := bfin (by go_grown) hb2
  go_wp2_with fail
  refine bodyPost_ret (v := .tuple #[(.int .i64 (formAt a b c x y)), (.int .i64 0)]) (by first | (simp [results, Try.results20, go_sem]; done) | (simp [results, Try.results20, go_sem, hc1] <;> rfl)) rfl ⟨rfl, by go_grown⟩
theorem l05Code_any (a b c p q r s : Int) (w : World) :
    Calls Try.prog 53 #[(.agg #[.int .i64 a, .int .i64 b, .int .i64 c]), (.agg #[.int .i64 p, .int .i64 q, .int .i64 r, .int .i64 s])] w fun e w' => e = .returned (.int .i64 (appliedCode a b c p q r s)) ∧ Below w.heap.size w w' := by
  cases hF : isForm a b c
  · rw [show appliedCode a b c p q r s = 1 by simp [appliedCode, hF]]
    go_enter Try.func53, Try.ntmps53
    go_wp2_with fail
    refine (l05Is_any _ _ _ _).mono ?_; rintro e w1 ⟨rfl, hb1⟩
    obtain ⟨hc1, hf1⟩ := bcell hb1
    have hB : Below w.heap.size w w1 := bfin (by go_grown) hb1
    go_wp2_with fail
    go_ret
    exact ⟨rfl, by go_grown⟩
  cases hM : isMat p q r s
  · rw [show appliedCode a b c p q r s = 1 by simp [appliedCode, hF, hM]]
    go_enter Try.func53, Try.ntmps53
    go_wp2_with fail
    refine (l05Is_any _ _ _ _).mono ?_; rintro e w1 ⟨rfl, hb1⟩
    obtain ⟨hc1, hf1⟩ := bcell hb1
    go_wp2_with fail
    refine (l01Is_any _ _ _ _ _).mono ?_; rintro e w2 ⟨rfl, hb2⟩
    replace hb2 := bstep hb1 hb2
    clear hc1 hf1 hb1
    obtain ⟨hc1, hf1⟩ := bcell hb2
    have hB : Below w.heap.size w w2 := bfin (by go_grown) hb2
    go_wp2_with fail
    go_ret
    exact ⟨rfl, by go_grown⟩
  have e0 : appliedCode a b c p q r s = if smallM p q r s = true then 0 else 2 := by simp [appliedCode, hF, hM]
  rw [e0]
  clear e0
  cases hp : inB p (-1000) 1000
  · rw [show smallM p q r s = false by simp [smallM, hp]]
    go_enter Try.func53, Try.ntmps53
    go_wp2_with fail
    refine (l05Is_any _ _ _ _).mono ?_; rintro e w1 ⟨rfl, hb1⟩
    obtain ⟨hc1, hf1⟩ := bcell hb1
    go_wp2_with fail
    refine (l01Is_any _ _ _ _ _).mono ?_; rintro e w2 ⟨rfl, hb2⟩
    replace hb2 := bstep hb1 hb2
    clear hc1 hf1 hb1
    obtain ⟨hc1, hf1⟩ := bcell hb2
    obtain ⟨hz0, hz1⟩ : w.heap.size < w2.heap.size ∧ w.heap.size + 1 < w2.heap.size := by have := hb2.size; simp at this; omega
    go_wp2_with fail
    refine wp_loop_rounds 5 ?_
    repeat any_goals (rw [rounds_succ]; go_wp2_with (go_at_call 50; refine (l01In_any _ _ _ _).mono ?_; rintro e w' ⟨rfl, rfl⟩))
    have hB : Below w.heap.size w w2 := bfin (by go_grown) hb2
    go_wp2_with fail
    go_ret
    exact ⟨rfl, by go_grown⟩
  cases hq : inB q (-1000) 1000
  · rw [show smallM p q r s = false by simp [smallM, hq]]
    go_enter Try.func53, Try.ntmps53
    go_wp2_with fail
    refine (l05Is_any _ _ _ _).mono ?_; rintro e w1 ⟨rfl, hb1⟩
    obtain ⟨hc1, hf1⟩ := bcell hb1
    go_wp2_with fail
    refine (l01Is_any _ _ _ _ _).mono ?_; rintro e w2 ⟨rfl, hb2⟩
    replace hb2 := bstep hb1 hb2
    clear hc1 hf1 hb1
    obtain ⟨hc1, hf1⟩ := bcell hb2
    obtain ⟨hz0, hz1⟩ : w.heap.size < w2.heap.size ∧ w.heap.size + 1 < w2.heap.size := by have := hb2.size; simp at this; omega
    go_wp2_with fail
    refine wp_loop_rounds 5 ?_
    repeat any_goals (rw [rounds_succ]; go_wp2_with (go_at_call 50; refine (l01In_any _ _ _ _).mono ?_; rintro e w' ⟨rfl, rfl⟩))
    have hB : Below w.heap.size w w2 := bfin (by go_grown) hb2
    go_wp2_with fail
    go_ret
    exact ⟨rfl, by go_grown⟩
  cases hr : inB r (-1000) 1000
  · rw [show smallM p q r s = false by simp [smallM, hr]]
    go_enter Try.func53, Try.ntmps53
    go_wp2_with fail
    refine (l05Is_any _ _ _ _).mono ?_; rintro e w1 ⟨rfl, hb1⟩
    obtain ⟨hc1, hf1⟩ := bcell hb1
    go_wp2_with fail
    refine (l01Is_any _ _ _ _ _).mono ?_; rintro e w2 ⟨rfl, hb2⟩
    replace hb2 := bstep hb1 hb2
    clear hc1 hf1 hb1
    obtain ⟨hc1, hf1⟩ := bcell hb2
    obtain ⟨hz0, hz1⟩ : w.heap.size < w2.heap.size ∧ w.heap.size + 1 < w2.heap.size := by have := hb2.size; simp at this; omega
    go_wp2_with fail
    refine wp_loop_rounds 5 ?_
    repeat any_goals (rw [rounds_succ]; go_wp2_with (go_at_call 50; refine (l01In_any _ _ _ _).mono ?_; rintro e w' ⟨rfl, rfl⟩))
    have hB : Below w.heap.size w w2 := bfin (by go_grown) hb2
    go_wp2_with fail
    go_ret
    exact ⟨rfl, by go_grown⟩
  cases hs : inB s (-1000) 1000
  · rw [show smallM p q r s = false by simp [smallM, hs]]
    go_enter Try.func53, Try.ntmps53
    go_wp2_with fail
    refine (l05Is_any _ _ _ _).mono ?_; rintro e w1 ⟨rfl, hb1⟩
    obtain ⟨hc1, hf1⟩ := bcell hb1
    go_wp2_with fail
    refine (l01Is_any _ _ _ _ _).mono ?_; rintro e w2 ⟨rfl, hb2⟩
    replace hb2 := bstep hb1 hb2
    clear hc1 hf1 hb1
    obtain ⟨hc1, hf1⟩ := bcell hb2
    obtain ⟨hz0, hz1⟩ : w.heap.size < w2.heap.size ∧ w.heap.size + 1 < w2.heap.size := by have := hb2.size; simp at this; omega
    go_wp2_with fail
    refine wp_loop_rounds 5 ?_
    repeat any_goals (rw [rounds_succ]; go_wp2_with (go_at_call 50; refine (l01In_any _ _ _ _).mono ?_; rintro e w' ⟨rfl, rfl⟩))
    have hB : Below w.heap.size w w2 := bfin (by go_grown) hb2
    go_wp2_with fail
    go_ret
    exact ⟨rfl, by go_grown⟩
  rw [show smallM p q r s = true by simp [smallM, hp, hq, hr, hs]]
  go_enter Try.func53, Try.ntmps53
  go_wp2_with fail
  refine (l05Is_any _ _ _ _).mono ?_; rintro e w1 ⟨rfl, hb1⟩
  obtain ⟨hc1, hf1⟩ := bcell hb1
  go_wp2_with fail
  refine (l01Is_any _ _ _ _ _).mono ?_; rintro e w2 ⟨rfl, hb2⟩
  replace hb2 := bstep hb1 hb2
  clear hc1 hf1 hb1
  obtain ⟨hc1, hf1⟩ := bcell hb2
  obtain ⟨hz0, hz1⟩ : w.heap.size < w2.heap.size ∧ w.heap.size + 1 < w2.heap.size := by have := hb2.size; simp at this; omega
  go_wp2_with fail
  refine wp_loop_rounds 5 ?_
  repeat any_goals (rw [rounds_succ]; go_wp2_with (go_at_call 50; refine (l01In_any _ _ _ _).mono ?_; rintro e w' ⟨rfl, rfl⟩))
  have hB : Below w.heap.size w w2 := bfin (by go_grown) hb2
  go_wp2_with fail
  go_ret
  exact ⟨rfl, by go_grown⟩
end Go.Proofs.Ytmpmphnlollkaaa
