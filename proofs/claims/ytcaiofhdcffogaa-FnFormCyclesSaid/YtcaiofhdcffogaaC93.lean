/- The law CycleOf. -/
import Derived.Test.YtcaiofhdcffogaaC92
import Derived.Test.YtcaiofhdcffogaaR2
namespace Go.Proofs.Ytcaiofhdcffogaa
open Go.RowKit
set_option maxRecDepth 100000 in
set_option maxHeartbeats 1000000 in
theorem CycleOf_any (a b c : Int) (w : World) :
    Calls Try.prog 14 #[(.agg #[.int .i64 a, .int .i64 b, .int .i64 c])] w fun e w' => ∃ v, e = .returned (.tuple #[v, (.int .i64 ((cycRes a b c).2))]) ∧ w'.ownsRow w.heap.size 34 3 v (cycRes a b c).1.length (ints (flatF (cycRes a b c).1)) ∧ Below w.heap.size w w' := by
  cases hF : isForm a b c
  · rw [show cycRes a b c = ([], 1) by simp [cycRes, hF]]
    go_enter Try.func14, Try.ntmps14
    go_wp2_with fail
    refine (IsForm_any _ _ _ _).mono ?_; rintro e w1 ⟨rfl, hb1⟩
    obtain ⟨hc1, hf1⟩ := bcell hb1
    have hB1 : Below w.heap.size w w1 := bfin (by go_grown) hb1
    go_wp2_with fail
    go_ret2
    exact ⟨_, rfl, World.ownsRow_nil _ _ _ _, by go_grown⟩
  have hs := small_of hF
  have HD := Lib.hid (fun W => disc_any a b c W hs)
  rw [show (b * b - 4 * a * c : Int) = disc a b c from rfl] at HD
  by_cases h2 : 2000 < disc a b c
  · rw [show cycRes a b c = ([], 2) by simp [cycRes, hF, h2]]
    generalize disc a b c = D at *
    go_enter Try.func14, Try.ntmps14
    go_wp2_with fail
    refine (IsForm_any _ _ _ _).mono ?_; rintro e w1 ⟨rfl, hb1⟩
    obtain ⟨hc1, hf1⟩ := bcell hb1
    go_wp2_with fail
    refine (HD.out _).mono ?_; rintro e w2 ⟨rfl, hb2⟩
    replace hb2 := bstep hb1 hb2
    clear hc1 hf1 hb1
    obtain ⟨hc2, hf2⟩ := bcell hb2
    have hB2 : Below w.heap.size w w2 := bfin (by go_grown) hb2
    go_wp2_with fail
    go_ret2
    exact ⟨_, rfl, World.ownsRow_nil _ _ _ _, by go_grown⟩
  cases hd : indB a b c
  · rw [show cycRes a b c = ([], 5) by simp [cycRes, hF, hd, h2]]
    generalize disc a b c = D at *
    go_enter Try.func14, Try.ntmps14
    go_wp2_with fail
    refine (IsForm_any _ _ _ _).mono ?_; rintro e w1 ⟨rfl, hb1⟩
    obtain ⟨hc1, hf1⟩ := bcell hb1
    go_wp2_with fail
    refine (HD.out _).mono ?_; rintro e w2 ⟨rfl, hb2⟩
    replace hb2 := bstep hb1 hb2
    clear hc1 hf1 hb1
    obtain ⟨hc2, hf2⟩ := bcell hb2
    go_wp2_with fail
    refine (isIndefinite_any _ _ _ _ hs).mono ?_; rintro e w3 ⟨rfl, hb3⟩
    replace hb3 := bstep hb2 hb3
    clear hc2 hf2 hb2
    obtain ⟨hc3, hf3⟩ := bcell hb3
    have hB3 : Below w.heap.size w w3 := bfin (by go_grown) hb3
    go_wp2_with fail
    go_ret2
    exact ⟨_, rfl, World.ownsRow_nil _ _ _ _, by go_grown⟩
  cases hr : redB a b c
  · rw [show cycRes a b c = ([], 5) by simp [cycRes, hF, hr, h2]]
    generalize disc a b c = D at *
    go_enter Try.func14, Try.ntmps14
    go_wp2_with fail
    refine (IsForm_any _ _ _ _).mono ?_; rintro e w1 ⟨rfl, hb1⟩
    obtain ⟨hc1, hf1⟩ := bcell hb1
    go_wp2_with fail
    refine (HD.out _).mono ?_; rintro e w2 ⟨rfl, hb2⟩
    replace hb2 := bstep hb1 hb2
    clear hc1 hf1 hb1
    obtain ⟨hc2, hf2⟩ := bcell hb2
    go_wp2_with fail
    refine (isIndefinite_any _ _ _ _ hs).mono ?_; rintro e w3 ⟨rfl, hb3⟩
    replace hb3 := bstep hb2 hb3
    clear hc2 hf2 hb2
    obtain ⟨hc3, hf3⟩ := bcell hb3
    go_wp2_with fail
    refine (isReduced_any _ _ _ _ hs).mono ?_; rintro e w4 ⟨rfl, hb4⟩
    replace hb4 := bstep hb3 hb4
    clear hc3 hf3 hb3
    obtain ⟨hc4, hf4⟩ := bcell hb4
    have hB4 : Below w.heap.size w w4 := bfin (by go_grown) hb4
    go_wp2_with fail
    go_ret2
    exact ⟨_, rfl, World.ownsRow_nil _ _ _ _, by go_grown⟩
  have hc := isCyc_of h2 hd hr
  obtain ⟨N, hP⟩ := hc.period
  rw [show cycRes a b c = (cycL ⟨a, b, c⟩ N, 0) by simp [cycRes, hF, hd, hr, h2, cycR_eq hP]]
  have HC := Lib.hid (fun W => cycle_any ⟨a, b, c⟩ N W hc hP)
  have HL := Lib.hid (cycL_len ⟨a, b, c⟩ N)
  clear hc hP
  simp only at HC
  generalize cycL ⟨a, b, c⟩ N = L at *
  generalize disc a b c = D at *
  go_enter Try.func14, Try.ntmps14
  go_wp2_with fail
  refine (IsForm_any _ _ _ _).mono ?_; rintro e w1 ⟨rfl, hb1⟩
  obtain ⟨hc1, hf1⟩ := bcell hb1
  go_wp2_with fail
  refine (HD.out _).mono ?_; rintro e w2 ⟨rfl, hb2⟩
  replace hb2 := bstep hb1 hb2
  clear hc1 hf1 hb1
  obtain ⟨hc2, hf2⟩ := bcell hb2
  go_wp2_with fail
  refine (isIndefinite_any _ _ _ _ hs).mono ?_; rintro e w3 ⟨rfl, hb3⟩
  replace hb3 := bstep hb2 hb3
  clear hc2 hf2 hb2
  obtain ⟨hc3, hf3⟩ := bcell hb3
  go_wp2_with fail
  refine (isReduced_any _ _ _ _ hs).mono ?_; rintro e w4 ⟨rfl, hb4⟩
  replace hb4 := bstep hb3 hb4
  clear hc3 hf3 hb3
  obtain ⟨hc4, hf4⟩ := bcell hb4
  have hB4 : Below w.heap.size w w4 := bfin (by go_grown) hb4
  have hz0 : w.heap.size < w4.heap.size := by have := hb4.size; (try simp at this); omega
  go_wp2_with fail
  refine (HC.out _).mono ?_; rintro e w5 ⟨v5, rfl, ho5, hb5⟩
  have hs4 := hB4.size
  have HO5 := Lib.hid (own_base ho5 hs4)
  clear ho5
  go_wp2_with fail
  go_ret2
  exact ⟨_, rfl, by rw [HL.out]; exact HO5.out, bfin hB4 hb5⟩
set_option maxRecDepth 100000 in
set_option maxHeartbeats 1000000 in
theorem sCycleOf_any (a b c : Int) (w : World) :
    Calls Try.prog 15 #[(.agg #[.int .i64 a, .int .i64 b, .int .i64 c])] w fun e w' => ∃ v, e = .returned (.tuple #[v, (.int .i64 ((cycRes a b c).2))]) ∧ w'.ownsRow w.heap.size 34 3 v (cycRes a b c).1.length (ints (flatF (cycRes a b c).1)) ∧ Below w.heap.size w w' := by
  cases hF : isForm a b c
  · rw [show cycRes a b c = ([], 1) by simp [cycRes, hF]]
    go_enter Try.func15, Try.ntmps15
    go_wp2_with fail
    refine (l05Is_any _ _ _ _).mono ?_; rintro e w1 ⟨rfl, hb1⟩
    obtain ⟨hc1, hf1⟩ := bcell hb1
    have hB1 : Below w.heap.size w w1 := bfin (by go_grown) hb1
    go_wp2_with fail
    go_ret2
    exact ⟨_, rfl, World.ownsRow_nil _ _ _ _, by go_grown⟩
  have hs := small_of hF
  have HD := Lib.hid (fun W => l05Disc_any a b c W hs)
  rw [show (b * b - 4 * a * c : Int) = disc a b c from rfl] at HD
  by_cases h2 : 2000 < disc a b c
  · rw [show cycRes a b c = ([], 2) by simp [cycRes, hF, h2]]
    generalize disc a b c = D at *
    go_enter Try.func15, Try.ntmps15
    go_wp2_with fail
    refine (l05Is_any _ _ _ _).mono ?_; rintro e w1 ⟨rfl, hb1⟩
    obtain ⟨hc1, hf1⟩ := bcell hb1
    go_wp2_with fail
    refine (HD.out _).mono ?_; rintro e w2 ⟨rfl, hb2⟩
    replace hb2 := bstep hb1 hb2
    clear hc1 hf1 hb1
    obtain ⟨hc2, hf2⟩ := bcell hb2
    have hB2 : Below w.heap.size w w2 := bfin (by go_grown) hb2
    go_wp2_with fail
    go_ret2
    exact ⟨_, rfl, World.ownsRow_nil _ _ _ _, by go_grown⟩
  have HG := Lib.hid (fun W => l05Given_any a b c W)
  by_cases hg : indB a b c = true ∧ redB a b c = true
  · obtain ⟨hd, hr⟩ := hg
    rw [show givenC a b c = 0 by simp [givenC, hF, hd, hr]] at HG
    have hc := isCyc_of h2 hd hr
    obtain ⟨N, hP⟩ := hc.period
    rw [show cycRes a b c = (cycL ⟨a, b, c⟩ N, 0) by simp [cycRes, hF, hd, hr, h2, cycR_eq hP]]
    have HC := Lib.hid (fun W => l05Cycle_any ⟨a, b, c⟩ N W hc hP)
    have HL := Lib.hid (cycL_len ⟨a, b, c⟩ N)
    clear hc hP
    simp only at HC
    generalize cycL ⟨a, b, c⟩ N = L at *
    generalize disc a b c = D at *
    go_enter Try.func15, Try.ntmps15
    go_wp2_with fail
    refine (l05Is_any _ _ _ _).mono ?_; rintro e w1 ⟨rfl, hb1⟩
    obtain ⟨hc1, hf1⟩ := bcell hb1
    go_wp2_with fail
    refine (HD.out _).mono ?_; rintro e w2 ⟨rfl, hb2⟩
    replace hb2 := bstep hb1 hb2
    clear hc1 hf1 hb1
    obtain ⟨hc2, hf2⟩ := bcell hb2
    go_wp2_with fail
    refine (HG.out _).mono ?_; rintro e w3 ⟨rfl, hb3⟩
    replace hb3 := bstep hb2 hb3
    clear hc2 hf2 hb2
    obtain ⟨hc3, hf3⟩ := bcell hb3
    have hB3 : Below w.heap.size w w3 := bfin (by go_grown) hb3
    have hz0 : w.heap.size < w3.heap.size := by have := hb3.size; (try simp at this); omega
    go_wp2_with fail
    refine (HC.out _).mono ?_; rintro e w5 ⟨v5, rfl, ho5, hb5⟩
    have hs3 := hB3.size
    have HO5 := Lib.hid (own_base ho5 hs3)
    clear ho5
    go_wp2_with fail
    go_ret2
    exact ⟨_, rfl, by rw [HL.out]; exact HO5.out, bfin hB3 hb5⟩
  · rw [show givenC a b c = 5 by simp only [givenC, hF, if_true]; rw [if_neg hg]] at HG
    rw [show cycRes a b c = ([], 5) by simp only [cycRes, hF, if_true]; rw [if_neg h2, if_neg hg]]
    clear hg
    generalize disc a b c = D at *
    go_enter Try.func15, Try.ntmps15
    go_wp2_with fail
    refine (l05Is_any _ _ _ _).mono ?_; rintro e w1 ⟨rfl, hb1⟩
    obtain ⟨hc1, hf1⟩ := bcell hb1
    go_wp2_with fail
    refine (HD.out _).mono ?_; rintro e w2 ⟨rfl, hb2⟩
    replace hb2 := bstep hb1 hb2
    clear hc1 hf1 hb1
    obtain ⟨hc2, hf2⟩ := bcell hb2
    go_wp2_with fail
    refine (HG.out _).mono ?_; rintro e w3 ⟨rfl, hb3⟩
    replace hb3 := bstep hb2 hb3
    clear hc2 hf2 hb2
    obtain ⟨hc3, hf3⟩ := bcell hb3
    have hB3 : Below w.heap.size w w3 := bfin (by go_grown) hb3
    go_wp2_with fail
    go_ret2
    exact ⟨_, rfl, World.ownsRow_nil _ _ _ _, by go_grown⟩
end Go.Proofs.Ytcaiofhdcffogaa
