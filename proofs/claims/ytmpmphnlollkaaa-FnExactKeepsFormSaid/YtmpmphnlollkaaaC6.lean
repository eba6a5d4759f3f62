/- Contracts: discriminants, values and made forms, as they are handed out. -/
import Derived.Test.YtmpmphnlollkaaaC5
namespace Go.Proofs.Ytmpmphnlollkaaa
open Go.RowKit
theorem DiscriminantOf_any (a b c : Int) (w : World) :
    Calls Try.prog 19 #[(.agg #[.int .i64 a, .int .i64 b, .int .i64 c])] w fun e w' => e = .returned (.tuple #[(.int .i64 ((discOf a b c).1)), (.int .i64 ((discOf a b c).2))]) ∧ Below w.heap.size w w' := by
  cases hF : isForm a b c
  · rw [discOf_no hF]
    go_enter Try.func19, Try.ntmps19
    go_wp2_with fail
    refine (IsForm_any _ _ _ _).mono ?_; rintro e w1 ⟨rfl, hb1⟩
    obtain ⟨hc1, hf1⟩ := bcell hb1
    have hB : Below w.heap.size w w1 := bfin (by go_grown) hb1
    go_wp2_with fail
    refine bodyPost_ret (v := .tuple #[(.int .i64 0), (.int .i64 1)]) (by first | (simp [results, Try.results19, go_sem]; done) | (simp [results, Try.results19, go_sem, hc1] <;> rfl)) rfl ⟨rfl, by go_grown⟩
  · rw [discOf_yes hF]
    go_enter Try.func19, Try.ntmps19
    go_wp2_with fail
    refine (IsForm_any _ _ _ _).mono ?_; rintro e w1 ⟨rfl, hb1⟩
    obtain ⟨hc1, hf1⟩ := bcell hb1
    go_wp2_with fail
    refine (disc_any _ _ _ _ (small_of hF)).mono ?_; rintro e w2 ⟨rfl, hb2⟩
    replace hb2 := bstep hb1 hb2
    clear hc1 hf1 hb1
    obtain ⟨hc1, hf1⟩ := bcell hb2
    have hB : Below w.heap.size w w2 := bfin (by go_grown) hb2
    go_wp2_with fail
    refine bodyPost_ret (v := .tuple #[(.int .i64 (b * b - 4 * a * c)), (.int .i64 0)]) (by first | (simp [results, Try.results19, go_sem]; done) | (simp [results, Try.results19, go_sem, hc1] <;> rfl)) rfl ⟨rfl, by go_grown⟩
theorem sDiscriminantOf_any (a b c : Int) (w : World) :
    Calls Try.prog 18 #[(.agg #[.int .i64 a, .int .i64 b, .int .i64 c])] w fun e w' => e = .returned (.tuple #[(.int .i64 ((discOf a b c).1)), (.int .i64 ((discOf a b c).2))]) ∧ Below w.heap.size w w' := by
  cases hF : isForm a b c
  · rw [discOf_no hF]
    go_enter Try.func18, Try.ntmps18
    go_wp2_with fail
    refine (l05Is_any _ _ _ _).mono ?_; rintro e w1 ⟨rfl, hb1⟩
    obtain ⟨hc1, hf1⟩ := bcell hb1
    have hB : Below w.heap.size w w1 := bfin (by go_grown) hb1
    go_wp2_with fail
    refine bodyPost_ret (v := .tuple #[(.int .i64 0), (.int .i64 1)]) (by first | (simp [results, Try.results18, go_sem]; done) | (simp [results, Try.results18, go_sem, hc1] <;> rfl)) rfl ⟨rfl, by go_grown⟩
  · rw [discOf_yes hF]
    go_enter Try.func18, Try.ntmps18
    go_wp2_with fail
    refine (l05Is_any _ _ _ _).mono ?_; rintro e w1 ⟨rfl, hb1⟩
    obtain ⟨hc1, hf1⟩ := bcell hb1
    go_wp2_with fail
    refine (l05Disc_any _ _ _ _ (small_of hF)).mono ?_; rintro e w2 ⟨rfl, hb2⟩
    replace hb2 := bstep hb1 hb2
    clear hc1 hf1 hb1
    obtain ⟨hc1, hf1⟩ := bcell hb2
    have hB : Below w.heap.size w w2 := bfin (by go_grown) hb2
    go_wp2_with fail
    refine bodyPost_ret (v := .tuple #[(.int .i64 (b * b - 4 * a * c)), (.int .i64 0)]) (by first | (simp [results, Try.results18, go_sem]; done) | (simp [results, Try.results18, go_sem, hc1] <;> rfl)) rfl ⟨rfl, by go_grown⟩
theorem lawFnExactDiscriminantOf (a b c : Int) (_ : -9223372036854775808 ≤ a ∧ a ≤ 9223372036854775807) (_ : -9223372036854775808 ≤ b ∧ b ≤ 9223372036854775807) (_ : -9223372036854775808 ≤ c ∧ c ≤ 9223372036854775807) (w : World) :
    Calls Try.prog 4 #[(.agg #[.int .i64 a, .int .i64 b, .int .i64 c])] w fun e w' => e = .returned (.bool true) ∧ Below w.heap.size w w' := by
  generalize hR : discOf a b c = R
  have HR := Lib.hid hR
  clear hR
  obtain ⟨R1, R2⟩ := R
  have hn1 : (R1 != R1) = false := by simp
  have hn2 : (R2 != R2) = false := by simp
  have HS := Lib.hid (sDiscriminantOf_any a b c)
  have HI := Lib.hid (DiscriminantOf_any a b c)
  rw [HR.out] at HS HI
  go_enter Try.func4, Try.ntmps4
  go_wp2_with fail
  refine (toForm_any _ _ _ _).mono ?_; rintro e w1 ⟨rfl, hb1⟩
  obtain ⟨hc1, hf1⟩ := bcell hb1
  go_wp2_with fail
  refine (HS.out _).mono ?_; rintro e w2 ⟨rfl, hb2⟩
  replace hb2 := bstep hb1 hb2
  clear hc1 hf1 hb1
  obtain ⟨hc1, hf1⟩ := bcell hb2
  go_wp2_with fail
  refine (toForm_any _ _ _ _).mono ?_; rintro e w3 ⟨rfl, hb3⟩
  replace hb3 := bstep hb2 hb3
  clear hc1 hf1 hb2
  obtain ⟨hc1, hf1⟩ := bcell hb3
  go_wp2_with fail
  refine (HI.out _).mono ?_; rintro e w4 ⟨rfl, hb4⟩
  replace hb4 := bstep hb3 hb4
  clear hc1 hf1 hb3
  obtain ⟨hc1, hf1⟩ := bcell hb4
  have hB : Below w.heap.size w w4 := bfin (by go_grown) hb4
  go_wp2_with fail
  go_ret
  exact ⟨rfl, by go_grown⟩
end Go.Proofs.Ytmpmphnlollkaaa
