/- Contracts: is a form reduced; the law. -/
import Derived.Test.YtmpmphnlollkaaaC15
namespace Go.Proofs.Ytmpmphnlollkaaa
open Go.RowKit
def isRed (a b c : Int) : Bool × Int := if isForm a b c = true then (if defB a b c = true ∨ indB a b c = true then (redB a b c, 0) else (false, 5)) else (false, 1)
theorem IsReducedForm_any (a b c : Int) (w : World) :
    Calls Try.prog 34 #[(.agg #[.int .i64 a, .int .i64 b, .int .i64 c])] w fun e w' => e = .returned (.tuple #[.bool (isRed a b c).1, (.int .i64 ((isRed a b c).2))]) ∧ Below w.heap.size w w' := by
  cases hF : isForm a b c
  · rw [show isRed a b c = (false, 1) by simp [isRed, hF]]
    go_enter Try.func34, Try.ntmps34
    go_wp2_with fail
    refine (IsForm_any _ _ _ _).mono ?_; rintro e w1 ⟨rfl, hb1⟩
    obtain ⟨hc1, hf1⟩ := bcell hb1
    have hB1 : Below w.heap.size w w1 := bfin (by go_grown) hb1
    go_wp2_with fail
    refine bodyPost_ret (v := .tuple #[.bool false, (.int .i64 1)]) (by first | (simp [results, Try.results34, go_sem]; done) | (simp [results, Try.results34, go_sem, hc1] <;> rfl)) rfl ⟨rfl, by go_grown⟩
  have hs := small_of hF
  cases hd : defB a b c
  · cases hi : indB a b c
    · rw [show isRed a b c = (false, 5) by simp [isRed, hF, hd, hi]]
      go_enter Try.func34, Try.ntmps34
      go_wp2_with fail
      refine (IsForm_any _ _ _ _).mono ?_; rintro e w1 ⟨rfl, hb1⟩
      obtain ⟨hc1, hf1⟩ := bcell hb1
      go_wp2_with fail
      refine (isDefinite_any _ _ _ _ hs).mono ?_; rintro e w2 ⟨rfl, hb2⟩
      replace hb2 := bstep hb1 hb2
      clear hc1 hf1 hb1
      obtain ⟨hc2, hf2⟩ := bcell hb2
      go_wp2_with fail
      refine (isIndefinite_any _ _ _ _ hs).mono ?_; rintro e w3 ⟨rfl, hb3⟩
      replace hb3 := bstep hb2 hb3
      clear hc2 hf2 hb2
      obtain ⟨hc3, hf3⟩ := bcell hb3
      have hB3 : Below w.heap.size w w3 := bfin (by go_grown) hb3
      go_wp2_with fail
      refine bodyPost_ret (v := .tuple #[.bool false, (.int .i64 5)]) (by first | (simp [results, Try.results34, go_sem]; done) | (simp [results, Try.results34, go_sem, hc3] <;> rfl)) rfl ⟨rfl, by go_grown⟩
    · rw [show isRed a b c = (redB a b c, 0) by simp [isRed, hF, hi]]
      go_enter Try.func34, Try.ntmps34
      go_wp2_with fail
      refine (IsForm_any _ _ _ _).mono ?_; rintro e w1 ⟨rfl, hb1⟩
      obtain ⟨hc1, hf1⟩ := bcell hb1
      go_wp2_with fail
      refine (isDefinite_any _ _ _ _ hs).mono ?_; rintro e w2 ⟨rfl, hb2⟩
      replace hb2 := bstep hb1 hb2
      clear hc1 hf1 hb1
      obtain ⟨hc2, hf2⟩ := bcell hb2
      go_wp2_with fail
      refine (isIndefinite_any _ _ _ _ hs).mono ?_; rintro e w3 ⟨rfl, hb3⟩
      replace hb3 := bstep hb2 hb3
      clear hc2 hf2 hb2
      obtain ⟨hc3, hf3⟩ := bcell hb3
      go_wp2_with fail
      refine (isReduced_any _ _ _ _ hs).mono ?_; rintro e w4 ⟨rfl, hb4⟩
      replace hb4 := bstep hb3 hb4
      clear hc3 hf3 hb3
      obtain ⟨hc4, hf4⟩ := bcell hb4
      have hB4 : Below w.heap.size w w4 := bfin (by go_grown) hb4
      go_wp2_with fail
      refine bodyPost_ret (v := .tuple #[.bool (redB a b c), (.int .i64 0)]) (by first | (simp [results, Try.results34, go_sem]; done) | (simp [results, Try.results34, go_sem, hc4] <;> rfl)) rfl ⟨rfl, by go_grown⟩
  · rw [show isRed a b c = (redB a b c, 0) by simp [isRed, hF, hd]]
    go_enter Try.func34, Try.ntmps34
    go_wp2_with fail
    refine (IsForm_any _ _ _ _).mono ?_; rintro e w1 ⟨rfl, hb1⟩
    obtain ⟨hc1, hf1⟩ := bcell hb1
    go_wp2_with fail
    refine (isDefinite_any _ _ _ _ hs).mono ?_; rintro e w2 ⟨rfl, hb2⟩
    replace hb2 := bstep hb1 hb2
    clear hc1 hf1 hb1
    obtain ⟨hc2, hf2⟩ := bcell hb2
    go_wp2_with fail
    refine (isReduced_any _ _ _ _ hs).mono ?_; rintro e w3 ⟨rfl, hb3⟩
    replace hb3 := bstep hb2 hb3
    clear hc2 hf2 hb2
    obtain ⟨hc3, hf3⟩ := bcell hb3
    have hB3 : Below w.heap.size w w3 := bfin (by go_grown) hb3
    go_wp2_with fail
    refine bodyPost_ret (v := .tuple #[.bool (redB a b c), (.int .i64 0)]) (by first | (simp [results, Try.results34, go_sem]; done) | (simp [results, Try.results34, go_sem, hc3] <;> rfl)) rfl ⟨rfl, by go_grown⟩
theorem sIsReducedForm_any (a b c : Int) (w : World) :
    Calls Try.prog 33 #[(.agg #[.int .i64 a, .int .i64 b, .int .i64 c])] w fun e w' => e = .returned (.tuple #[.bool (isRed a b c).1, (.int .i64 ((isRed a b c).2))]) ∧ Below w.heap.size w w' := by
  cases hF : isForm a b c
  · rw [show isRed a b c = (false, 1) by simp [isRed, hF]]
    go_enter Try.func33, Try.ntmps33
    go_wp2_with fail
    refine (l05Is_any _ _ _ _).mono ?_; rintro e w1 ⟨rfl, hb1⟩
    obtain ⟨hc1, hf1⟩ := bcell hb1
    have hB1 : Below w.heap.size w w1 := bfin (by go_grown) hb1
    go_wp2_with fail
    refine bodyPost_ret (v := .tuple #[.bool false, (.int .i64 1)]) (by first | (simp [results, Try.results33, go_sem]; done) | (simp [results, Try.results33, go_sem, hc1] <;> rfl)) rfl ⟨rfl, by go_grown⟩
  have hs := small_of hF
  cases hd : defB a b c
  · cases hi : indB a b c
    · rw [show isRed a b c = (false, 5) by simp [isRed, hF, hd, hi]]
      go_enter Try.func33, Try.ntmps33
      go_wp2_with fail
      refine (l05Is_any _ _ _ _).mono ?_; rintro e w1 ⟨rfl, hb1⟩
      obtain ⟨hc1, hf1⟩ := bcell hb1
      go_wp2_with fail
      refine (l05Definite_any _ _ _ _ hs).mono ?_; rintro e w2 ⟨rfl, hb2⟩
      replace hb2 := bstep hb1 hb2
      clear hc1 hf1 hb1
      obtain ⟨hc2, hf2⟩ := bcell hb2
      go_wp2_with fail
      refine (l05Indefinite_any _ _ _ _ hs).mono ?_; rintro e w3 ⟨rfl, hb3⟩
      replace hb3 := bstep hb2 hb3
      clear hc2 hf2 hb2
      obtain ⟨hc3, hf3⟩ := bcell hb3
      have hB3 : Below w.heap.size w w3 := bfin (by go_grown) hb3
      go_wp2_with fail
      refine bodyPost_ret (v := .tuple #[.bool false, (.int .i64 5)]) (by first | (simp [results, Try.results33, go_sem]; done) | (simp [results, Try.results33, go_sem, hc3] <;> rfl)) rfl ⟨rfl, by go_grown⟩
    · rw [show isRed a b c = (redB a b c, 0) by simp [isRed, hF, hi]]
      go_enter Try.func33, Try.ntmps33
      go_wp2_with fail
      refine (l05Is_any _ _ _ _).mono ?_; rintro e w1 ⟨rfl, hb1⟩
      obtain ⟨hc1, hf1⟩ := bcell hb1
      go_wp2_with fail
      refine (l05Definite_any _ _ _ _ hs).mono ?_; rintro e w2 ⟨rfl, hb2⟩
      replace hb2 := bstep hb1 hb2
      clear hc1 hf1 hb1
      obtain ⟨hc2, hf2⟩ := bcell hb2
      go_wp2_with fail
      refine (l05Indefinite_any _ _ _ _ hs).mono ?_; rintro e w3 ⟨rfl, hb3⟩
      replace hb3 := bstep hb2 hb3
      clear hc2 hf2 hb2
      obtain ⟨hc3, hf3⟩ := bcell hb3
      go_wp2_with fail
      refine (l05Reduced_any _ _ _ _ hs).mono ?_; rintro e w4 ⟨rfl, hb4⟩
      replace hb4 := bstep hb3 hb4
      clear hc3 hf3 hb3
      obtain ⟨hc4, hf4⟩ := bcell hb4
      have hB4 : Below w.heap.size w w4 := bfin (by go_grown) hb4
      go_wp2_with fail
      refine bodyPost_ret (v := .tuple #[.bool (redB a b c), (.int .i64 0)]) (by first | (simp [results, Try.results33, go_sem]; done) | (simp [results, Try.results33, go_sem, hc4] <;> rfl)) rfl ⟨rfl, by go_grown⟩
  · rw [show isRed a b c = (redB a b c, 0) by simp [isRed, hF, hd]]
    go_enter Try.func33, Try.ntmps33
    go_wp2_with fail
    refine (l05Is_any _ _ _ _).mono ?_; rintro e w1 ⟨rfl, hb1⟩
    obtain ⟨hc1, hf1⟩ := bcell hb1
    go_wp2_with fail
    refine (l05Definite_any _ _ _ _ hs).mono ?_; rintro e w2 ⟨rfl, hb2⟩
    replace hb2 := bstep hb1 hb2
    clear hc1 hf1 hb1
    obtain ⟨hc2, hf2⟩ := bcell hb2
    go_wp2_with fail
    refine (l05Reduced_any _ _ _ _ hs).mono ?_; rintro e w3 ⟨rfl, hb3⟩
    replace hb3 := bstep hb2 hb3
    clear hc2 hf2 hb2
    obtain ⟨hc3, hf3⟩ := bcell hb3
    have hB3 : Below w.heap.size w w3 := bfin (by go_grown) hb3
    go_wp2_with fail
    refine bodyPost_ret (v := .tuple #[.bool (redB a b c), (.int .i64 0)]) (by first | (simp [results, Try.results33, go_sem]; done) | (simp [results, Try.results33, go_sem, hc3] <;> rfl)) rfl ⟨rfl, by go_grown⟩
theorem lawFnExactIsReducedForm (a b c : Int) (_ : I64 a) (_ : I64 b) (_ : I64 c) (w : World) :
    Calls Try.prog 10 #[(.agg #[.int .i64 a, .int .i64 b, .int .i64 c])] w fun e w' => e = .returned (.bool true) ∧ Below w.heap.size w w' := by
  have HS := Lib.hid (sIsReducedForm_any a b c)
  have HI := Lib.hid (IsReducedForm_any a b c)
  generalize isRed a b c = R at HS HI
  obtain ⟨R1, R2⟩ := R
  have hn1 : (R1 != R1) = false := by simp
  have hn2 : (R2 != R2) = false := by simp
  go_enter Try.func10, Try.ntmps10
  go_wp2_with fail
  refine (toForm_any _ _ _ _).mono ?_; rintro e w1 ⟨rfl, hb1⟩
  obtain ⟨hc1, hf1⟩ := bcell hb1
  go_wp2_with fail
  refine (HS.out _).mono ?_; rintro e w2 ⟨rfl, hb2⟩
  replace hb2 := bstep hb1 hb2
  clear hc1 hf1 hb1
  obtain ⟨hc2, hf2⟩ := bcell hb2
  go_wp2_with fail
  refine (toForm_any _ _ _ _).mono ?_; rintro e w3 ⟨rfl, hb3⟩
  replace hb3 := bstep hb2 hb3
  clear hc2 hf2 hb2
  obtain ⟨hc3, hf3⟩ := bcell hb3
  go_wp2_with fail
  refine (HI.out _).mono ?_; rintro e w4 ⟨rfl, hb4⟩
  replace hb4 := bstep hb3 hb4
  clear hc3 hf3 hb3
  obtain ⟨hc4, hf4⟩ := bcell hb4
  have hB4 : Below w.heap.size w w4 := bfin (by go_grown) hb4
  go_wp2_with fail
  go_ret
  exact ⟨rfl, by go_grown⟩
end Go.Proofs.Ytmpmphnlollkaaa
