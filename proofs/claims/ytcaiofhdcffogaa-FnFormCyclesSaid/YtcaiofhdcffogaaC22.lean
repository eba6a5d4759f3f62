/- Contracts: NextForm; the law. -/
import Derived.Test.YtcaiofhdcffogaaC21
namespace Go.Proofs.Ytcaiofhdcffogaa
open Go.RowKit
theorem sqB_sq (b : Int) : sqB (b * b) = true := by
  have h : IsRoot (b.natAbs : Int) (b * b) := by
    have e : (b.natAbs : Int) * b.natAbs = b * b := Int.natAbs_mul_self' b
    refine ⟨by omega, by omega, ?_⟩
    rw [show ((b.natAbs : Int) + 1) * (b.natAbs + 1) = b.natAbs * b.natAbs + 2 * b.natAbs + 1 by grind, e]; omega
  have := root_unique (isqrt_root (sq_nn b)) h
  unfold sqB
  rw [this, Int.natAbs_mul_self' b]; simp
theorem ind_c {a b c : Int} (h : indB a b c = true) : 0 < disc a b c ∧ c ≠ 0 := by
  simp [indB] at h
  refine ⟨h.1, fun hc => ?_⟩
  have h2 := h.2
  rw [hc, show disc a b 0 = b * b by unfold disc; grind, sqB_sq] at h2
  simp at h2
theorem isForm_c {a b c : Int} (h : a ≠ 0) : isForm a b c = smallB a b c := by
  rw [Bool.eq_iff_iff]; simp [isForm, smallB, h]
def nextRes (a b c : Int) : F3 × Int := if isForm a b c = true then (if indB a b c = true ∧ redB a b c = true then (if smallB (nextF a b c).x (nextF a b c).y (nextF a b c).z = true then (nextF a b c, 0) else (⟨0, 0, 0⟩, 3)) else (⟨0, 0, 0⟩, 5)) else (⟨0, 0, 0⟩, 1)
def givenC (a b c : Int) : Int := if isForm a b c = true then (if indB a b c = true ∧ redB a b c = true then 0 else 5) else 1
theorem l05Given_any (a b c : Int) (w : World) :
    Calls Try.prog 43 #[(.agg #[.int .i64 a, .int .i64 b, .int .i64 c])] w fun e w' => e = .returned (.int .i64 (givenC a b c)) ∧ Below w.heap.size w w' := by
  cases hF : isForm a b c
  · rw [show givenC a b c = 1 by simp [givenC, hF]]
    go_enter Try.func43, Try.ntmps43
    go_wp2_with fail
    refine (l05Is_any _ _ _ _).mono ?_; rintro e w1 ⟨rfl, hb1⟩
    obtain ⟨hc1, hf1⟩ := bcell hb1
    have hB1 : Below w.heap.size w w1 := bfin (by go_grown) hb1
    go_wp2_with fail
    go_ret
    exact ⟨rfl, by go_grown⟩
  have hs := small_of hF
  cases hd : indB a b c
  · rw [show givenC a b c = 5 by simp [givenC, hF, hd]]
    go_enter Try.func43, Try.ntmps43
    go_wp2_with fail
    refine (l05Is_any _ _ _ _).mono ?_; rintro e w1 ⟨rfl, hb1⟩
    obtain ⟨hc1, hf1⟩ := bcell hb1
    go_wp2_with fail
    refine (l05Indefinite_any _ _ _ _ hs).mono ?_; rintro e w2 ⟨rfl, hb2⟩
    replace hb2 := bstep hb1 hb2
    clear hc1 hf1 hb1
    obtain ⟨hc2, hf2⟩ := bcell hb2
    have hB2 : Below w.heap.size w w2 := bfin (by go_grown) hb2
    go_wp2_with fail
    go_ret
    exact ⟨rfl, by go_grown⟩
  · cases hr : redB a b c
    · rw [show givenC a b c = 5 by simp [givenC, hF, hd, hr]]
      go_enter Try.func43, Try.ntmps43
      go_wp2_with fail
      refine (l05Is_any _ _ _ _).mono ?_; rintro e w1 ⟨rfl, hb1⟩
      obtain ⟨hc1, hf1⟩ := bcell hb1
      go_wp2_with fail
      refine (l05Indefinite_any _ _ _ _ hs).mono ?_; rintro e w2 ⟨rfl, hb2⟩
      replace hb2 := bstep hb1 hb2
      clear hc1 hf1 hb1
      obtain ⟨hc2, hf2⟩ := bcell hb2
      go_wp2_with fail
      refine (l05Reduced_any _ _ _ _ hs).mono ?_; rintro e w3 ⟨rfl, hb3⟩
      replace hb3 := bstep hb2 hb3
      clear hc2 hf2 hb2
      obtain ⟨hc3, hf3⟩ := bcell hb3
      have hB3 : Below w.heap.size w w3 := bfin (by go_grown) hb3
      go_wp2_with fail
      go_ret
      exact ⟨rfl, by go_grown⟩
    · rw [show givenC a b c = 0 by simp [givenC, hF, hd, hr]]
      go_enter Try.func43, Try.ntmps43
      go_wp2_with fail
      refine (l05Is_any _ _ _ _).mono ?_; rintro e w1 ⟨rfl, hb1⟩
      obtain ⟨hc1, hf1⟩ := bcell hb1
      go_wp2_with fail
      refine (l05Indefinite_any _ _ _ _ hs).mono ?_; rintro e w2 ⟨rfl, hb2⟩
      replace hb2 := bstep hb1 hb2
      clear hc1 hf1 hb1
      obtain ⟨hc2, hf2⟩ := bcell hb2
      go_wp2_with fail
      refine (l05Reduced_any _ _ _ _ hs).mono ?_; rintro e w3 ⟨rfl, hb3⟩
      replace hb3 := bstep hb2 hb3
      clear hc2 hf2 hb2
      obtain ⟨hc3, hf3⟩ := bcell hb3
      have hB3 : Below w.heap.size w w3 := bfin (by go_grown) hb3
      go_wp2_with fail
      go_ret
      exact ⟨rfl, by go_grown⟩
set_option maxRecDepth 100000 in
set_option maxHeartbeats 1000000 in
theorem NextForm_any (a b c : Int) (w : World) :
    Calls Try.prog 16 #[(.agg #[.int .i64 a, .int .i64 b, .int .i64 c])] w fun e w' => e = .returned (.tuple #[(.agg #[.int .i64 ((nextRes a b c).1.x), .int .i64 ((nextRes a b c).1.y), .int .i64 ((nextRes a b c).1.z)]), (.int .i64 ((nextRes a b c).2))]) ∧ Below w.heap.size w w' := by
  cases hF : isForm a b c
  · rw [show nextRes a b c = (⟨0, 0, 0⟩, 1) by simp [nextRes, hF]]
    go_enter Try.func16, Try.ntmps16
    go_wp2_with fail
    refine (IsForm_any _ _ _ _).mono ?_; rintro e w1 ⟨rfl, hb1⟩
    obtain ⟨hc1, hf1⟩ := bcell hb1
    obtain ⟨hz0, hz1⟩ : w.heap.size < w1.heap.size ∧ w.heap.size + 1 < w1.heap.size := by have := hb1.size; (try simp at this); omega
    have hB1 : Below w.heap.size w w1 := bfin (by go_grown) hb1
    go_wp2_with fail
    have hall := And.intro hc1 (And.intro hz0 (hz1))
    refine bodyPost_ret (v := .tuple #[(.agg #[.int .i64 0, .int .i64 0, .int .i64 0]), (.int .i64 1)]) (by first | (simp [results, Try.results16, go_sem]; done) | (simp [results, Try.results16, go_sem, hall] <;> rfl)) rfl ⟨rfl, by go_grown⟩
  have hs := small_of hF
  cases hd : indB a b c
  · rw [show nextRes a b c = (⟨0, 0, 0⟩, 5) by simp [nextRes, hF, hd]]
    go_enter Try.func16, Try.ntmps16
    go_wp2_with fail
    refine (IsForm_any _ _ _ _).mono ?_; rintro e w1 ⟨rfl, hb1⟩
    obtain ⟨hc1, hf1⟩ := bcell hb1
    go_wp2_with fail
    refine (isIndefinite_any _ _ _ _ hs).mono ?_; rintro e w2 ⟨rfl, hb2⟩
    replace hb2 := bstep hb1 hb2
    clear hc1 hf1 hb1
    obtain ⟨hc2, hf2⟩ := bcell hb2
    obtain ⟨hz0, hz1⟩ : w.heap.size < w2.heap.size ∧ w.heap.size + 1 < w2.heap.size := by have := hb2.size; (try simp at this); omega
    have hB2 : Below w.heap.size w w2 := bfin (by go_grown) hb2
    go_wp2_with fail
    have hall := And.intro hc2 (And.intro hz0 (hz1))
    refine bodyPost_ret (v := .tuple #[(.agg #[.int .i64 0, .int .i64 0, .int .i64 0]), (.int .i64 5)]) (by first | (simp [results, Try.results16, go_sem]; done) | (simp [results, Try.results16, go_sem, hall] <;> rfl)) rfl ⟨rfl, by go_grown⟩
  cases hr : redB a b c
  · rw [show nextRes a b c = (⟨0, 0, 0⟩, 5) by simp [nextRes, hF, hr]]
    go_enter Try.func16, Try.ntmps16
    go_wp2_with fail
    refine (IsForm_any _ _ _ _).mono ?_; rintro e w1 ⟨rfl, hb1⟩
    obtain ⟨hc1, hf1⟩ := bcell hb1
    go_wp2_with fail
    refine (isIndefinite_any _ _ _ _ hs).mono ?_; rintro e w2 ⟨rfl, hb2⟩
    replace hb2 := bstep hb1 hb2
    clear hc1 hf1 hb1
    obtain ⟨hc2, hf2⟩ := bcell hb2
    go_wp2_with fail
    refine (isReduced_any _ _ _ _ hs).mono ?_; rintro e w3 ⟨rfl, hb3⟩
    replace hb3 := bstep hb2 hb3
    clear hc2 hf2 hb2
    obtain ⟨hc3, hf3⟩ := bcell hb3
    obtain ⟨hz0, hz1⟩ : w.heap.size < w3.heap.size ∧ w.heap.size + 1 < w3.heap.size := by have := hb3.size; (try simp at this); omega
    have hB3 : Below w.heap.size w w3 := bfin (by go_grown) hb3
    go_wp2_with fail
    have hall := And.intro hc3 (And.intro hz0 (hz1))
    refine bodyPost_ret (v := .tuple #[(.agg #[.int .i64 0, .int .i64 0, .int .i64 0]), (.int .i64 5)]) (by first | (simp [results, Try.results16, go_sem]; done) | (simp [results, Try.results16, go_sem, hall] <;> rfl)) rfl ⟨rfl, by go_grown⟩
  have hok := next_ok hs (ind_c hd).1 (ind_c hd).2
  have hx : -9000000000000000000 ≤ (nextF a b c).x ∧ (nextF a b c).x ≤ 9000000000000000000 := by have := hs.c0; have := hs.c1; unfold nextF; simp only; omega
  have hy : -9000000000000000000 ≤ (nextF a b c).y ∧ (nextF a b c).y ≤ 9000000000000000000 := by have := hok.b0; have := hok.b1; unfold nextF; simp only; omega
  have hz : -9000000000000000000 ≤ (nextF a b c).z ∧ (nextF a b c).z ≤ 9000000000000000000 := by have := hok.l0; have := hok.l1; unfold nextF; simp only; omega
  have HN := Lib.hid (fun W => next_any a b c W hs hok)
  have e : nextRes a b c = if smallB (nextF a b c).x (nextF a b c).y (nextF a b c).z = true then (nextF a b c, 0) else (⟨0, 0, 0⟩, 3) := by simp [nextRes, hF, hd, hr]
  rw [e]
  clear e hok
  generalize nextF a b c = F at *
  obtain ⟨x, y, z⟩ := F
  simp only at hx hy hz ⊢
  cases hb : smallB x y z
  · simp only [Bool.false_eq_true, if_false]
    go_enter Try.func16, Try.ntmps16
    go_wp2_with fail
    refine (IsForm_any _ _ _ _).mono ?_; rintro e w1 ⟨rfl, hb1⟩
    obtain ⟨hc1, hf1⟩ := bcell hb1
    go_wp2_with fail
    refine (isIndefinite_any _ _ _ _ hs).mono ?_; rintro e w2 ⟨rfl, hb2⟩
    replace hb2 := bstep hb1 hb2
    clear hc1 hf1 hb1
    obtain ⟨hc2, hf2⟩ := bcell hb2
    go_wp2_with fail
    refine (isReduced_any _ _ _ _ hs).mono ?_; rintro e w3 ⟨rfl, hb3⟩
    replace hb3 := bstep hb2 hb3
    clear hc2 hf2 hb2
    obtain ⟨hc3, hf3⟩ := bcell hb3
    go_wp2_with fail
    refine (HN.out _).mono ?_; rintro e w4 ⟨rfl, hb4⟩
    replace hb4 := bstep hb3 hb4
    clear hc3 hf3 hb3
    obtain ⟨hc4, hf4⟩ := bcell hb4
    obtain ⟨hz0, hz1⟩ : w.heap.size < w4.heap.size ∧ w.heap.size + 1 < w4.heap.size := by have := hb4.size; (try simp at this); omega
    have hB4 : Below w.heap.size w w4 := bfin (by go_grown) hb4
    go_wp2_with fail
    refine (areSmall_any _ _ _ _ hx hy hz).mono ?_; rintro e w5 ⟨rfl, hb5⟩
    obtain ⟨hc5, hf5⟩ := bcell hb5
    obtain ⟨hz5_0, hz5_1, hz5_2⟩ : w.heap.size < w5.heap.size ∧ w.heap.size + 1 < w5.heap.size ∧ w4.heap.size < w5.heap.size := by have := hb5.size; (try simp at this); omega
    have hB5 : Below w.heap.size w w5 := bfin (by go_grown) hb5
    go_wp2_with fail
    have hall := And.intro hc4 (And.intro hc5 (And.intro hz0 (And.intro hz1 (And.intro hz5_0 (And.intro hz5_1 (hz5_2))))))
    refine bodyPost_ret (v := .tuple #[(.agg #[.int .i64 0, .int .i64 0, .int .i64 0]), (.int .i64 3)]) (by first | (simp [results, Try.results16, go_sem]; done) | (simp [results, Try.results16, go_sem, hall] <;> rfl)) rfl ⟨rfl, by go_grown⟩
  · simp only [if_true]
    go_enter Try.func16, Try.ntmps16
    go_wp2_with fail
    refine (IsForm_any _ _ _ _).mono ?_; rintro e w1 ⟨rfl, hb1⟩
    obtain ⟨hc1, hf1⟩ := bcell hb1
    go_wp2_with fail
    refine (isIndefinite_any _ _ _ _ hs).mono ?_; rintro e w2 ⟨rfl, hb2⟩
    replace hb2 := bstep hb1 hb2
    clear hc1 hf1 hb1
    obtain ⟨hc2, hf2⟩ := bcell hb2
    go_wp2_with fail
    refine (isReduced_any _ _ _ _ hs).mono ?_; rintro e w3 ⟨rfl, hb3⟩
    replace hb3 := bstep hb2 hb3
    clear hc2 hf2 hb2
    obtain ⟨hc3, hf3⟩ := bcell hb3
    go_wp2_with fail
    refine (HN.out _).mono ?_; rintro e w4 ⟨rfl, hb4⟩
    replace hb4 := bstep hb3 hb4
    clear hc3 hf3 hb3
    obtain ⟨hc4, hf4⟩ := bcell hb4
    obtain ⟨hz0, hz1⟩ : w.heap.size < w4.heap.size ∧ w.heap.size + 1 < w4.heap.size := by have := hb4.size; (try simp at this); omega
    have hB4 : Below w.heap.size w w4 := bfin (by go_grown) hb4
    go_wp2_with fail
    refine (areSmall_any _ _ _ _ hx hy hz).mono ?_; rintro e w5 ⟨rfl, hb5⟩
    obtain ⟨hc5, hf5⟩ := bcell hb5
    obtain ⟨hz5_0, hz5_1, hz5_2⟩ : w.heap.size < w5.heap.size ∧ w.heap.size + 1 < w5.heap.size ∧ w4.heap.size < w5.heap.size := by have := hb5.size; (try simp at this); omega
    have hB5 : Below w.heap.size w w5 := bfin (by go_grown) hb5
    go_wp2_with fail
    have hall := And.intro hc4 (And.intro hc5 (And.intro hz0 (And.intro hz1 (And.intro hz5_0 (And.intro hz5_1 (hz5_2))))))
    refine bodyPost_ret (v := .tuple #[(.agg #[.int .i64 x, .int .i64 y, .int .i64 z]), (.int .i64 0)]) (by first | (simp [results, Try.results16, go_sem]; done) | (simp [results, Try.results16, go_sem, hall] <;> rfl)) rfl ⟨rfl, by go_grown⟩
set_option maxRecDepth 100000 in
set_option maxHeartbeats 1000000 in
theorem sNextForm_any (a b c : Int) (w : World) :
    Calls Try.prog 17 #[(.agg #[.int .i64 a, .int .i64 b, .int .i64 c])] w fun e w' => e = .returned (.tuple #[(.agg #[.int .i64 ((nextRes a b c).1.x), .int .i64 ((nextRes a b c).1.y), .int .i64 ((nextRes a b c).1.z)]), (.int .i64 ((nextRes a b c).2))]) ∧ Below w.heap.size w w' := by
  have HG := Lib.hid (fun W => l05Given_any a b c W)
  by_cases hg : isForm a b c = true ∧ indB a b c = true ∧ redB a b c = true
  · obtain ⟨hF, hd, hr⟩ := hg
    have hs := small_of hF
    have hok := next_ok hs (ind_c hd).1 (ind_c hd).2
    rw [show givenC a b c = 0 by simp [givenC, hF, hd, hr]] at HG
    have HN := Lib.hid (fun W => l05Next_any a b c W hs hok)
    have e : nextRes a b c = if isForm (nextF a b c).x (nextF a b c).y (nextF a b c).z = true then (nextF a b c, 0) else (⟨0, 0, 0⟩, 3) := by
      rw [isForm_c (show (nextF a b c).x ≠ 0 from (ind_c hd).2)]
      simp [nextRes, hF, hd, hr]
    rw [e]
    clear e hok hF hd hr
    generalize nextF a b c = F at *
    obtain ⟨x, y, z⟩ := F
    simp only at ⊢
    cases hb : isForm x y z
    · simp only [Bool.false_eq_true, if_false]
      go_enter Try.func17, Try.ntmps17
      go_wp2_with fail
      refine (HG.out _).mono ?_; rintro e w1 ⟨rfl, hb1⟩
      obtain ⟨hc1, hf1⟩ := bcell hb1
      go_wp2_with fail
      refine (HN.out _).mono ?_; rintro e w2 ⟨rfl, hb2⟩
      replace hb2 := bstep hb1 hb2
      clear hc1 hf1 hb1
      obtain ⟨hc2, hf2⟩ := bcell hb2
      obtain ⟨hz0, hz1⟩ : w.heap.size < w2.heap.size ∧ w.heap.size + 1 < w2.heap.size := by have := hb2.size; (try simp at this); omega
      have hB2 : Below w.heap.size w w2 := bfin (by go_grown) hb2
      go_wp2_with fail
      refine (l05Is_any _ _ _ _).mono ?_; rintro e w3 ⟨rfl, hb3⟩
      obtain ⟨hc3, hf3⟩ := bcell hb3
      obtain ⟨hz3_0, hz3_1, hz3_2⟩ : w.heap.size < w3.heap.size ∧ w.heap.size + 1 < w3.heap.size ∧ w2.heap.size < w3.heap.size := by have := hb3.size; (try simp at this); omega
      have hB3 : Below w.heap.size w w3 := bfin (by go_grown) hb3
      go_wp2_with fail
      have hall := And.intro hc2 (And.intro hc3 (And.intro hz0 (And.intro hz1 (And.intro hz3_0 (And.intro hz3_1 (hz3_2))))))
      refine bodyPost_ret (v := .tuple #[(.agg #[.int .i64 0, .int .i64 0, .int .i64 0]), (.int .i64 3)]) (by first | (simp [results, Try.results17, go_sem]; done) | (simp [results, Try.results17, go_sem, hall] <;> rfl)) rfl ⟨rfl, by go_grown⟩
    · simp only [if_true]
      go_enter Try.func17, Try.ntmps17
      go_wp2_with fail
      refine (HG.out _).mono ?_; rintro e w1 ⟨rfl, hb1⟩
      obtain ⟨hc1, hf1⟩ := bcell hb1
      go_wp2_with fail
      refine (HN.out _).mono ?_; rintro e w2 ⟨rfl, hb2⟩
      replace hb2 := bstep hb1 hb2
      clear hc1 hf1 hb1
      obtain ⟨hc2, hf2⟩ := bcell hb2
      obtain ⟨hz0, hz1⟩ : w.heap.size < w2.heap.size ∧ w.heap.size + 1 < w2.heap.size := by have := hb2.size; (try simp at this); omega
      have hB2 : Below w.heap.size w w2 := bfin (by go_grown) hb2
      go_wp2_with fail
      refine (l05Is_any _ _ _ _).mono ?_; rintro e w3 ⟨rfl, hb3⟩
      obtain ⟨hc3, hf3⟩ := bcell hb3
      obtain ⟨hz3_0, hz3_1, hz3_2⟩ : w.heap.size < w3.heap.size ∧ w.heap.size + 1 < w3.heap.size ∧ w2.heap.size < w3.heap.size := by have := hb3.size; (try simp at this); omega
      have hB3 : Below w.heap.size w w3 := bfin (by go_grown) hb3
      go_wp2_with fail
      have hall := And.intro hc2 (And.intro hc3 (And.intro hz0 (And.intro hz1 (And.intro hz3_0 (And.intro hz3_1 (hz3_2))))))
      refine bodyPost_ret (v := .tuple #[(.agg #[.int .i64 x, .int .i64 y, .int .i64 z]), (.int .i64 0)]) (by first | (simp [results, Try.results17, go_sem]; done) | (simp [results, Try.results17, go_sem, hall] <;> rfl)) rfl ⟨rfl, by go_grown⟩
  · have e : nextRes a b c = (⟨0, 0, 0⟩, givenC a b c) ∧ givenC a b c ≠ 0 := by
      unfold nextRes givenC
      by_cases hF : isForm a b c = true
      · rw [if_pos hF, if_pos hF, if_neg (fun h => hg ⟨hF, h⟩), if_neg (fun h => hg ⟨hF, h⟩)]; simp
      · rw [if_neg hF, if_neg hF]; simp
    obtain ⟨e, hn⟩ := e
    rw [e]
    clear e hg
    generalize givenC a b c = G at *
    go_enter Try.func17, Try.ntmps17
    go_wp2_with fail
    refine (HG.out _).mono ?_; rintro e w1 ⟨rfl, hb1⟩
    obtain ⟨hc1, hf1⟩ := bcell hb1
    obtain ⟨hz0, hz1⟩ : w.heap.size < w1.heap.size ∧ w.heap.size + 1 < w1.heap.size := by have := hb1.size; (try simp at this); omega
    have hB1 : Below w.heap.size w w1 := bfin (by go_grown) hb1
    go_wp2_with fail
    have hall := And.intro hc1 (And.intro hz0 (hz1))
    refine bodyPost_ret (v := .tuple #[(.agg #[.int .i64 0, .int .i64 0, .int .i64 0]), (.int .i64 G)]) (by first | (simp [results, Try.results17, go_sem]; done) | (simp [results, Try.results17, go_sem, hall] <;> rfl)) rfl ⟨rfl, by go_grown⟩
end Go.Proofs.Ytcaiofhdcffogaa
