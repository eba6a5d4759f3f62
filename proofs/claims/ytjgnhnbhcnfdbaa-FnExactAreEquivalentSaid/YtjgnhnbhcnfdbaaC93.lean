/- The law CycleOf. -/
import Derived.Test.YtjgnhnbhcnfdbaaC92
namespace Go.Proofs.Ytjgnhnbhcnfdbaa
open Go.RowKit
set_option maxRecDepth 100000 in
set_option maxHeartbeats 1000000 in
theorem CycleOf_any (a b c : Int) (w : World) :
    Calls Try.prog 20 #[(.agg #[.int .i64 a, .int .i64 b, .int .i64 c])] w fun e w' => ∃ v, e = .returned (.tuple #[v, (.int .i64 ((cycRes a b c).2))]) ∧ w'.ownsRow w.heap.size 30 3 v (cycRes a b c).1.length (ints (flatF (cycRes a b c).1)) ∧ Below w.heap.size w w' := by
  cases hF : isForm a b c
  · rw [show cycRes a b c = ([], 1) by simp [cycRes, hF]]
    go_enter Try.func20, Try.ntmps20
    go_wp2_with fail
    refine (IsForm_any _ _ _ _).mono ?_; rintro e w1 ⟨rfl, hb1⟩
    obtain ⟨hc1, hf1⟩ := bcell hb1
    have hB1 : Below w.heap.size w w1 := bfin (by go_grown) hb1
    go_wp2_with fail
    go_ret2
    exact ⟨_, rfl, World.ownsRow_nil _ _ _ _, by go_grown⟩
  have hs := small_of hF
  have HD := Lib.hid (fun W => disc_any a b c W hs)
  rw [show (b * b - 4 * a * c : Int) = disc a b c from rfl] at HD
  by_cases h2 : 2000 < disc a b c
  · rw [show cycRes a b c = ([], 2) by simp [cycRes, hF, h2]]
    generalize disc a b c = D at *
    go_enter Try.func20, Try.ntmps20
    go_wp2_with fail
    refine (IsForm_any _ _ _ _).mono ?_; rintro e w1 ⟨rfl, hb1⟩
    obtain ⟨hc1, hf1⟩ := bcell hb1
    go_wp2_with fail
    refine (HD.out _).mono ?_; rintro e w2 ⟨rfl, hb2⟩
    replace hb2 := bstep hb1 hb2
    clear hc1 hf1 hb1
    obtain ⟨hc2, hf2⟩ := bcell hb2
    have hB2 : Below w.heap.size w w2 := bfin (by go_grown) hb2
    go_wp2_with fail
    go_ret2
    exact ⟨_, rfl, World.ownsRow_nil _ _ _ _, by go_grown⟩
  cases hd : indB a b c
  · rw [show cycRes a b c = ([], 5) by simp [cycRes, hF, hd, h2]]
    generalize disc a b c = D at *
    go_enter Try.func20, Try.ntmps20
    go_wp2_with fail
    refine (IsForm_any _ _ _ _).mono ?_; rintro e w1 ⟨rfl, hb1⟩
    obtain ⟨hc1, hf1⟩ := bcell hb1
    go_wp2_with fail
    refine (HD.out _).mono ?_; rintro e w2 ⟨rfl, hb2⟩
    replace hb2 := bstep hb1 hb2
    clear hc1 hf1 hb1
    obtain ⟨hc2, hf2⟩ := bcell hb2
    go_wp2_with fail
    refine (isIndefinite_any _ _ _ _ hs).mono ?_; rintro e w3 ⟨rfl, hb3⟩
    replace hb3 := bstep hb2 hb3
    clear hc2 hf2 hb2
    obtain ⟨hc3, hf3⟩ := bcell hb3
    have hB3 : Below w.heap.size w w3 := bfin (by go_grown) hb3
    go_wp2_with fail
    go_ret2
    exact ⟨_, rfl, World.ownsRow_nil _ _ _ _, by go_grown⟩
  cases hr : redB a b c
  · rw [show cycRes a b c = ([], 5) by simp [cycRes, hF, hr, h2]]
    generalize disc a b c = D at *
    go_enter Try.func20, Try.ntmps20
    go_wp2_with fail
    refine (IsForm_any _ _ _ _).mono ?_; rintro e w1 ⟨rfl, hb1⟩
    obtain ⟨hc1, hf1⟩ := bcell hb1
    go_wp2_with fail
    refine (HD.out _).mono ?_; rintro e w2 ⟨rfl, hb2⟩
    replace hb2 := bstep hb1 hb2
    clear hc1 hf1 hb1
    obtain ⟨hc2, hf2⟩ := bcell hb2
    go_wp2_with fail
    refine (isIndefinite_any _ _ _ _ hs).mono ?_; rintro e w3 ⟨rfl, hb3⟩
    replace hb3 := bstep hb2 hb3
    clear hc2 hf2 hb2
    obtain ⟨hc3, hf3⟩ := bcell hb3
    go_wp2_with fail
    refine (isReduced_any _ _ _ _ hs).mono ?_; rintro e w4 ⟨rfl, hb4⟩
    replace hb4 := bstep hb3 hb4
    clear hc3 hf3 hb3
    obtain ⟨hc4, hf4⟩ := bcell hb4
    have hB4 : Below w.heap.size w w4 := bfin (by go_grown) hb4
    go_wp2_with fail
    go_ret2
    exact ⟨_, rfl, World.ownsRow_nil _ _ _ _, by go_grown⟩
  have hc := isCyc_of h2 hd hr
  obtain ⟨N, hP⟩ := hc.period
  rw [show cycRes a b c = (cycL ⟨a, b, c⟩ N, 0) by simp [cycRes, hF, hd, hr, h2, cycR_eq hP]]
  have HC := Lib.hid (fun W => cycle_any ⟨a, b, c⟩ N W hc hP)
  have HL := Lib.hid (cycL_len ⟨a, b, c⟩ N)
  clear hc hP
  simp only at HC
  generalize cycL ⟨a, b, c⟩ N = L at *
  generalize disc a b c = D at *
  go_enter Try.func20, Try.ntmps20
  go_wp2_with fail
  refine (IsForm_any _ _ _ _).mono ?_; rintro e w1 ⟨rfl, hb1⟩
  obtain ⟨hc1, hf1⟩ := bcell hb1
  go_wp2_with fail
  refine (HD.out _).mono ?_; rintro e w2 ⟨rfl, hb2⟩
  replace hb2 := bstep hb1 hb2
  clear hc1 hf1 hb1
  obtain ⟨hc2, hf2⟩ := bcell hb2
  go_wp2_with fail
  refine (isIndefinite_any _ _ _ _ hs).mono ?_; rintro e w3 ⟨rfl, hb3⟩
  replace hb3 := bstep hb2 hb3
  clear hc2 hf2 hb2
  obtain ⟨hc3, hf3⟩ := bcell hb3
  go_wp2_with fail
  refine (isReduced_any _ _ _ _ hs).mono ?_; rintro e w4 ⟨rfl, hb4⟩
  replace hb4 := bstep hb3 hb4
  clear hc3 hf3 hb3
  obtain ⟨hc4, hf4⟩ := bcell hb4
  have hB4 : Below w.heap.size w w4 := bfin (by go_grown) hb4
  have hz0 : w.heap.size < w4.heap.size := by have := hb4.size; (try simp at this); omega
  go_wp2_with fail
  refine (HC.out _).mono ?_; rintro e w5 ⟨v5, rfl, ho5, hb5⟩
  have hs4 := hB4.size
  have HO5 := Lib.hid (own_base ho5 hs4)
  clear ho5
  go_wp2_with fail
  go_ret2
  exact ⟨_, rfl, by rw [HL.out]; exact HO5.out, bfin hB4 hb5⟩
set_option maxRecDepth 100000 in
set_option maxHeartbeats 1000000 in
theorem sCycleOf_any (a b c : Int) (w : World) :
    Calls Try.prog 18 #[(.agg #[.int .i64 a, .int .i64 b, .int .i64 c])] w fun e w' => ∃ v, e = .returned (.tuple #[v, (.int .i64 ((cycRes a b c).2))]) ∧ w'.ownsRow w.heap.size 30 3 v (cycRes a b c).1.length (ints (flatF (cycRes a b c).1)) ∧ Below w.heap.size w w' := by
  cases hF : isForm a b c
  · rw [show cycRes a b c = ([], 1) by simp [cycRes, hF]]
    go_enter Try.func18, Try.ntmps18
    go_wp2_with fail
    refine (l05Is_any _ _ _ _).mono ?_; rintro e w1 ⟨rfl, hb1⟩
    obtain ⟨hc1, hf1⟩ := bcell hb1
    have hB1 : Below w.heap.size w w1 := bfin (by go_grown) hb1
    go_wp2_with fail
    go_ret2
    exact ⟨_, rfl, World.ownsRow_nil _ _ _ _, by go_grown⟩
  have hs := small_of hF
  have HD := Lib.hid (fun W => l05Disc_any a b c W hs)
  rw [show (b * b - 4 * a * c : Int) = disc a b c from rfl] at HD
  by_cases h2 : 2000 < disc a b c
  · rw [show cycRes a b c = ([], 2) by simp [cycRes, hF, h2]]
    generalize disc a b c = D at *
    go_enter Try.func18, Try.ntmps18
    go_wp2_with fail
    refine (l05Is_any _ _ _ _).mono ?_; rintro e w1 ⟨rfl, hb1⟩
    obtain ⟨hc1, hf1⟩ := bcell hb1
    go_wp2_with fail
    refine (HD.out _).mono ?_; rintro e w2 ⟨rfl, hb2⟩
    replace hb2 := bstep hb1 hb2
    clear hc1 hf1 hb1
    obtain ⟨hc2, hf2⟩ := bcell hb2
    have hB2 : Below w.heap.size w w2 := bfin (by go_grown) hb2
    go_wp2_with fail
    go_ret2
    exact ⟨_, rfl, World.ownsRow_nil _ _ _ _, by go_grown⟩
  have HG := Lib.hid (fun W => l05Given_any a b c W)
  by_cases hg : indB a b c = true ∧ redB a b c = true
  · obtain ⟨hd, hr⟩ := hg
    rw [show givenC a b c = 0 by simp [givenC, hF, hd, hr]] at HG
    have hc := isCyc_of h2 hd hr
    obtain ⟨N, hP⟩ := hc.period
    rw [show cycRes a b c = (cycL ⟨a, b, c⟩ N, 0) by simp [cycRes, hF, hd, hr, h2, cycR_eq hP]]
    have HC := Lib.hid (fun W => l05Cycle_any ⟨a, b, c⟩ N W hc hP)
    have HL := Lib.hid (cycL_len ⟨a, b, c⟩ N)
    clear hc hP
    simp only at HC
    generalize cycL ⟨a, b, c⟩ N = L at *
    generalize disc a b c = D at *
    go_enter Try.func18, Try.ntmps18
    go_wp2_with fail
    refine (l05Is_any _ _ _ _).mono ?_; rintro e w1 ⟨rfl, hb1⟩
    obtain ⟨hc1, hf1⟩ := bcell hb1
    go_wp2_with fail
    refine (HD.out _).mono ?_; rintro e w2 ⟨rfl, hb2⟩
    replace hb2 := bstep hb1 hb2
    clear hc1 hf1 hb1
    obtain ⟨hc2, hf2⟩ := bcell hb2
    go_wp2_with fail
    refine (HG.out _).mono ?_; rintro e w3 ⟨rfl, hb3⟩
    replace hb3 := bstep hb2 hb3
    clear hc2 hf2 hb2
    obtain ⟨hc3, hf3⟩ := bcell hb3
    have hB3 : Below w.heap.size w w3 := bfin (by go_grown) hb3
    have hz0 : w.heap.size < w3.heap.size := by have := hb3.size; (try simp at this); omega
    go_wp2_with fail
    refine (HC.out _).mono ?_; rintro e w5 ⟨v5, rfl, ho5, hb5⟩
    have hs3 := hB3.size
    have HO5 := Lib.hid (own_base ho5 hs3)
    clear ho5
    go_wp2_with fail
    go_ret2
    exact ⟨_, rfl, by rw [HL.out]; exact HO5.out, bfin hB3 hb5⟩
  · rw [show givenC a b c = 5 by simp only [givenC, hF, if_true]; rw [if_neg hg]] at HG
    rw [show cycRes a b c = ([], 5) by simp only [cycRes, hF, if_true]; rw [if_neg h2, if_neg hg]]
    clear hg
    generalize disc a b c = D at *
    go_enter Try.func18, Try.ntmps18
    go_wp2_with fail
    refine (l05Is_any _ _ _ _).mono ?_; rintro e w1 ⟨rfl, hb1⟩
    obtain ⟨hc1, hf1⟩ := bcell hb1
    go_wp2_with fail
    refine (HD.out _).mono ?_; rintro e w2 ⟨rfl, hb2⟩
    replace hb2 := bstep hb1 hb2
    clear hc1 hf1 hb1
    obtain ⟨hc2, hf2⟩ := bcell hb2
    go_wp2_with fail
    refine (HG.out _).mono ?_; rintro e w3 ⟨rfl, hb3⟩
    replace hb3 := bstep hb2 hb3
    clear hc2 hf2 hb2
    obtain ⟨hc3, hf3⟩ := bcell hb3
    have hB3 : Below w.heap.size w w3 := bfin (by go_grown) hb3
    go_wp2_with fail
    go_ret2
    exact ⟨_, rfl, World.ownsRow_nil _ _ _ _, by go_grown⟩
set_option maxRecDepth 100000 in
set_option maxHeartbeats 1000000 in
theorem lawFnExactCycleOf (a b d : Int) (_ : I64 a) (_ : I64 b) (_ : I64 d) (w : World) :
    Calls Try.prog 4 #[(.agg #[.int .i64 a, .int .i64 b, .int .i64 d])] w fun e w' => e = .returned (.bool true) ∧ Below w.heap.size w w' := by
  have HS := Lib.hid (sCycleOf_any a b d)
  have HI := Lib.hid (CycleOf_any a b d)
  have HN := Lib.hid (flatF_len (cycRes a b d).1)
  have hn := cycRes_len a b d
  generalize cycRes a b d = R at HS HI HN hn
  obtain ⟨l, c⟩ := R
  simp only at HS HI HN hn
  generalize l.length = n at *
  generalize flatF l = xs at *
  go_enter Try.func4, Try.ntmps4
  have hn2 : (c != c) = false := by simp
  have hml : n ≤ maxLen := by unfold maxLen; omega
  go_wp2_with fail
  have hXB := Lib.hid (show Blk3 (w.alloc (.cells #[(.int .i64 a), (.int .i64 b), (.int .i64 d)] 28)) w.heap.size 28 a b d from heap_new)
  have hBB : Below w.heap.size w (w.alloc (.cells #[(.int .i64 a), (.int .i64 b), (.int .i64 d)] 28)) := by go_grown
  generalize w.alloc _ = wB at *
  refine (toForm_any a b d _).mono ?_; rintro e t1 ⟨rfl, ht1⟩
  go_wp2_with fail
  refine (HS.out _).mono ?_; rintro e w1 ⟨v0, rfl, ho0', hb1'⟩
  have ho0 := own_base ho0' ht1.size
  have hb1 := bfin ht1 hb1'
  clear ho0' hb1' ht1
  obtain ⟨A0, cap0, rfl, -, -, hat0⟩ := own_view ho0
  have hu0 := Lib.hid (own_under ho0)
  have R0 := Lib.hid hat0
  clear ho0 hat0
  obtain ⟨⟨bx20, bx21, bx22⟩, -, -⟩ := Blk3.open_ (heap_below hXB.out hb1)
  go_wp2_with fail
  refine (toForm_any a b d _).mono ?_; rintro e t2 ⟨rfl, ht2⟩
  go_wp2_with fail
  refine (HI.out _).mono ?_; rintro e w2 ⟨v1, rfl, ho1', hb2'⟩
  have ho1 := own_base ho1' ht2.size
  have hb2 := bfin ht2 hb2'
  clear ho1' hb2' ht2
  obtain ⟨A1, cap1, rfl, -, -, hat1⟩ := own_view ho1
  have O1 := Lib.hid ho1
  have R1 := Lib.hid hat1
  clear ho1 hat1
  have R0' := Lib.hid (R0.out.below hb2)
  go_wp2_with fail
  refine (eqFormS_same A1 A0 n cap1 cap0 _ _ xs w2 HN.out hml R1.out R0'.out).mono ?_; rintro e w3 ⟨rfl, hb3⟩
  have O3 := Lib.hid (own_below O1.out hb3)
  have R03 := Lib.hid (R0'.out.below hb3)
  have hB2 := hb1.trans (hb2.mono hb1.size)
  have hB3 := hB2.trans (hb3.mono hB2.size)
  have hN := HN.out
  have M := Lib.hid (markFormS_any (.slice A1 n cap1) n w1.heap.size 30 xs 1 w3 hN (by omega) (by omega) O3.out)
  clear hN
  go_wp2_with fail
  refine (M.out).mono ?_; rintro e w4 ⟨rfl, ho4, hg4⟩
  have hB4 := below_mark hB3 O3.out hg4 hb1.size
  have R04 := Lib.hid (R03.out.far O3.out hg4 hu0.out)
  have O4 := Lib.hid ho4
  clear ho4 hg4 M
  have hm0 : ¬ ((1 : Int) + ((n : Nat) : Int) * 3 < 0) := by omega
  have hm1 : ((1 : Int) + ((n : Nat) : Int) * 3 != 1 + ((n : Nat) : Int) * 3) = false := by simp
  go_wp2_with fail
  refine (heldFormS_any A1 n cap1 _ 1 w4 hml (by omega) (by omega) (own_at O4.out)).mono ?_; rintro e w5 ⟨rfl, hb5⟩
  have hB5 := hB4.trans (hb5.mono hB4.size)
  have O5 := Lib.hid (own_below O4.out hb5)
  have R05 := Lib.hid (R04.out.below hb5)
  obtain ⟨⟨bx30, bx31, bx32⟩, -, -⟩ := Blk3.open_ (heap_below hXB.out hB5)
  go_wp2_with fail
  refine (toForm_any a b d _).mono ?_; rintro e t3 ⟨rfl, ht3⟩
  go_wp2_with fail
  refine (HI.out _).mono ?_; rintro e w6 ⟨v2, rfl, ho6', hb6'⟩
  have ho6 := own_base ho6' ht3.size
  have hb6 := bfin ht3 hb6'
  clear ho6' hb6' ht3
  obtain ⟨A2, cap2, rfl, -, -, hat6⟩ := own_view ho6
  have R6 := Lib.hid hat6
  clear ho6 hat6
  have hB6 := hB5.trans (hb6.mono hB5.size)
  have O6 := Lib.hid (own_below O5.out hb6)
  have R06 := Lib.hid (R05.out.below hb6)
  go_wp2_with fail
  refine (eqFormS_same A2 A0 n cap2 cap0 _ _ xs w6 HN.out hml R6.out R06.out).mono ?_; rintro e w7 ⟨rfl, hb7⟩
  have hB7 := hB6.trans (hb7.mono hB6.size)
  have O7 := Lib.hid (own_below O6.out hb7)
  go_wp2_with fail
  refine (heldFormS_any A1 n cap1 _ 1 w7 hml (by omega) (by omega) (own_at O7.out)).mono ?_; rintro e w8 ⟨rfl, hb8⟩
  have hB8 := hB7.trans (hb8.mono hB7.size)
  go_wp2_with fail
  go_ret
  exact ⟨rfl, bfin hBB hB8⟩
end Go.Proofs.Ytjgnhnbhcnfdbaa
