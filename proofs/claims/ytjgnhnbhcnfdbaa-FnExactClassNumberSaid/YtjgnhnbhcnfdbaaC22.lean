/- Contracts: NextForm; the law. -/
import Derived.Test.YtjgnhnbhcnfdbaaC21
namespace Go.Proofs.Ytjgnhnbhcnfdbaa
open Go.RowKit
theorem sqB_sq (b : Int) : sqB (b * b) = true := by
  have h : IsRoot (b.natAbs : Int) (b * b) := by
    have e : (b.natAbs : Int) * b.natAbs = b * b := Int.natAbs_mul_self' b
    refine ⟨by omega, by omega, ?_⟩
    rw [show ((b.natAbs : Int) + 1) * (b.natAbs + 1) = b.natAbs * b.natAbs + 2 * b.natAbs + 1 by grind, e]; omega
  have := root_unique (isqrt_root (sq_nn b)) h
  unfold sqB
  rw [this, Int.natAbs_mul_self' b]; simp
theorem ind_c {a b c : Int} (h : indB a b c = true) : 0 < disc a b c ∧ c ≠ 0 := by
  simp [indB] at h
  refine ⟨h.1, fun hc => ?_⟩
  have h2 := h.2
  rw [hc, show disc a b 0 = b * b by unfold disc; grind, sqB_sq] at h2
  simp at h2
theorem isForm_c {a b c : Int} (h : a ≠ 0) : isForm a b c = smallB a b c := by
  rw [Bool.eq_iff_iff]; simp [isForm, smallB, h]
def nextRes (a b c : Int) : F3 × Int := if isForm a b c = true then (if indB a b c = true ∧ redB a b c = true then (if smallB (nextF a b c).x (nextF a b c).y (nextF a b c).z = true then (nextF a b c, 0) else (⟨0, 0, 0⟩, 3)) else (⟨0, 0, 0⟩, 5)) else (⟨0, 0, 0⟩, 1)
def givenC (a b c : Int) : Int := if isForm a b c = true then (if indB a b c = true ∧ redB a b c = true then 0 else 5) else 1
theorem l05Given_any (a b c : Int) (w : World) :
    Calls Try.prog 51 #[(.agg #[.int .i64 a, .int .i64 b, .int .i64 c])] w fun e w' => e = .returned (.int .i64 (givenC a b c)) ∧ Below w.heap.size w w' := by
  cases hF : isForm a b c
  · rw [show givenC a b c = 1 by simp [givenC, hF]]
    go_enter Try.func51, Try.ntmps51
    go_wp2_with fail
    refine (l05Is_any _ _ _ _).mono ?_; rintro e w1 ⟨rfl, hb1⟩
    obtain ⟨hc1, hf1⟩ := bcell hb1
    have hB1 : Below w.heap.size w w1 := bfin (by go_grown) hb1
    go_wp2_with fail
    go_ret
    exact ⟨rfl, by go_grown⟩
  have hs := small_of hF
  cases hd : indB a b c
  · rw [show givenC a b c = 5 by simp [givenC, hF, hd]]
    go_enter Try.func51, Try.ntmps51
    go_wp2_with fail
    refine (l05Is_any _ _ _ _).mono ?_; rintro e w1 ⟨rfl, hb1⟩
    obtain ⟨hc1, hf1⟩ := bcell hb1
    go_wp2_with fail
    refine (l05Indefinite_any _ _ _ _ hs).mono ?_; rintro e w2 ⟨rfl, hb2⟩
    replace hb2 := bstep hb1 hb2
    clear hc1 hf1 hb1
    obtain ⟨hc2, hf2⟩ := bcell hb2
    have hB2 : Below w.heap.size w w2 := bfin (by go_grown) hb2
    go_wp2_with fail
    go_ret
    exact ⟨rfl, by go_grown⟩
  · cases hr : redB a b c
    · rw [show givenC a b c = 5 by simp [givenC, hF, hd, hr]]
      go_enter Try.func51, Try.ntmps51
      go_wp2_with fail
      refine (l05Is_any _ _ _ _).mono ?_; rintro e w1 ⟨rfl, hb1⟩
      obtain ⟨hc1, hf1⟩ := bcell hb1
      go_wp2_with fail
      refine (l05Indefinite_any _ _ _ _ hs).mono ?_; rintro e w2 ⟨rfl, hb2⟩
      replace hb2 := bstep hb1 hb2
      clear hc1 hf1 hb1
      obtain ⟨hc2, hf2⟩ := bcell hb2
      go_wp2_with fail
      refine (l05Reduced_any _ _ _ _ hs).mono ?_; rintro e w3 ⟨rfl, hb3⟩
      replace hb3 := bstep hb2 hb3
      clear hc2 hf2 hb2
      obtain ⟨hc3, hf3⟩ := bcell hb3
      have hB3 : Below w.heap.size w w3 := bfin (by go_grown) hb3
      go_wp2_with fail
      go_ret
      exact ⟨rfl, by go_grown⟩
    · rw [show givenC a b c = 0 by simp [givenC, hF, hd, hr]]
      go_enter Try.func51, Try.ntmps51
      go_wp2_with fail
      refine (l05Is_any _ _ _ _).mono ?_; rintro e w1 ⟨rfl, hb1⟩
      obtain ⟨hc1, hf1⟩ := bcell hb1
      go_wp2_with fail
      refine (l05Indefinite_any _ _ _ _ hs).mono ?_; rintro e w2 ⟨rfl, hb2⟩
      replace hb2 := bstep hb1 hb2
      clear hc1 hf1 hb1
      obtain ⟨hc2, hf2⟩ := bcell hb2
      go_wp2_with fail
      refine (l05Reduced_any _ _ _ _ hs).mono ?_; rintro e w3 ⟨rfl, hb3⟩
      replace hb3 := bstep hb2 hb3
      clear hc2 hf2 hb2
      obtain ⟨hc3, hf3⟩ := bcell hb3
      have hB3 : Below w.heap.size w w3 := bfin (by go_grown) hb3
      go_wp2_with fail
      go_ret
      exact ⟨rfl, by go_grown⟩
end Go.Proofs.Ytjgnhnbhcnfdbaa
