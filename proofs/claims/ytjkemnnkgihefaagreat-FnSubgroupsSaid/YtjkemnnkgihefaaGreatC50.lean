/- Contracts: members of the groups; the law. -/
import Derived.Test.YtjkemnnkgihefaaGreatC3
import Derived.Test.YtjkemnnkgihefaaGreatPA
namespace Go.Proofs.YtjkemnnkgihefaaGreat
open Go.RowKit
def memB (fam n a b c d : Int) : Bool := c.tmod n == 0 && (fam == 0 || ((a - 1).tmod n == 0 && ((d - 1).tmod n == 0 && (fam == 1 || b.tmod n == 0))))
def memRes (fam n a b c d : Int) : Bool × Int := if isMat a b c d = true then (if (inB fam 0 2 && inB n 1 1000000) = true then (memB fam n a b c d, 0) else (false, 2)) else (false, 1)
theorem ne_or (x : Int) : ((x != 0) = false ∧ (x == 0) = true) ∨ ((x != 0) = true ∧ (x == 0) = false) := by
  by_cases h : x = 0
  · left; simp [h]
  · right; simp [h]
set_option maxHeartbeats 1000000 in
theorem isMember_any (fam n a b c d : Int) (w : World) (hm : IsMat a b c d) (f0 : 0 ≤ fam) (f1 : fam ≤ 2) (n0 : 1 ≤ n) :
    Calls Tryz.prog 36 #[(.int .i64 fam), (.int .i64 n), (.agg #[.int .i64 a, .int .i64 b, .int .i64 c, .int .i64 d])] w fun e w' => e = .returned (.bool (memB fam n a b c d)) ∧ Below w.heap.size w w' := by
  obtain ⟨a0, a1, b0, b1, c0, c1, d0, d1, _⟩ := hm
  have hn : n ≠ 0 := by omega
  rcases ne_or (c.tmod n) with ⟨x1, x2⟩ | ⟨x1, x2⟩
  · rcases (show fam = 0 ∨ fam = 1 ∨ fam = 2 by omega) with rfl | rfl | rfl
    · have E : memB 0 n a b c d = true := by simp only [memB, x2]; rfl
      rw [E]
      clear E
      go_enter Tryz.func36, Tryz.ntmps36
      go_wp2_with fail
      go_ret
      exact ⟨rfl, by go_grown⟩
    all_goals
      rcases ne_or ((a - 1).tmod n) with ⟨y1, y2⟩ | ⟨y1, y2⟩ <;> rcases ne_or ((d - 1).tmod n) with ⟨z1, z2⟩ | ⟨z1, z2⟩ <;> rcases ne_or (b.tmod n) with ⟨u1, u2⟩ | ⟨u1, u2⟩
      all_goals
        simp only [memB, x2, y2, z2, u2, Bool.true_and, Bool.false_and, Bool.or_true, Bool.or_false, show ((1 : Int) == 0) = false from rfl, show ((2 : Int) == 0) = false from rfl, show ((1 : Int) == 1) = true from rfl, show ((2 : Int) == 1) = false from rfl]
        go_enter Tryz.func36, Tryz.ntmps36
        go_wp2_with fail
        go_ret
        exact ⟨rfl, by go_grown⟩
  · simp only [memB, x2, Bool.false_and]
    go_enter Tryz.func36, Tryz.ntmps36
    go_wp2_with fail
    go_ret
    exact ⟨rfl, by go_grown⟩
set_option maxHeartbeats 1000000 in
theorem IsMember_any (fam n a b c d : Int) (w : World) :
    Calls Tryz.prog 6 #[(.int .i64 fam), (.int .i64 n), (.agg #[.int .i64 a, .int .i64 b, .int .i64 c, .int .i64 d])] w fun e w' => e = .returned (.tuple #[.bool (memRes fam n a b c d).1, (.int .i64 ((memRes fam n a b c d).2))]) ∧ Below w.heap.size w w' := by
  have H1 := Lib.hid (fun W => within_any fam 0 2 W)
  have H2 := Lib.hid (fun W => within_any n 1 1000000 W)
  have H0 := Lib.hid (fun W => IsMatrix_any a b c d W)
  cases hM : isMat a b c d
  · rw [show memRes fam n a b c d = (false, 1) by simp [memRes, hM]]
    rw [hM] at H0
    go_enter Tryz.func6, Tryz.ntmps6
    go_wp2_with fail
    refine (H0.out _).mono ?_; rintro e w1 ⟨rfl, hb1⟩
    obtain ⟨hc1, hf1⟩ := bcell hb1
    have hB1 : Below w.heap.size w w1 := bfin (by go_grown) hb1
    go_wp2_with fail
    go_ret2
    exact ⟨rfl, by go_grown⟩
  rw [hM] at H0
  cases hf : inB fam 0 2
  · rw [show memRes fam n a b c d = (false, 2) by simp [memRes, hM, hf]]
    rw [hf] at H1
    go_enter Tryz.func6, Tryz.ntmps6
    go_wp2_with fail
    refine (H0.out _).mono ?_; rintro e w1 ⟨rfl, hb1⟩
    obtain ⟨hc1, hf1⟩ := bcell hb1
    go_wp2_with fail
    refine (H1.out _).mono ?_; rintro e w' ⟨rfl, rfl⟩
    have hB1 : Below w.heap.size w w1 := bfin (by go_grown) hb1
    go_wp2_with fail
    go_ret2
    exact ⟨rfl, by go_grown⟩
  rw [hf] at H1
  cases hn : inB n 1 1000000
  · rw [show memRes fam n a b c d = (false, 2) by simp [memRes, hM, hf, hn]]
    rw [hn] at H2
    go_enter Tryz.func6, Tryz.ntmps6
    go_wp2_with fail
    refine (H0.out _).mono ?_; rintro e w1 ⟨rfl, hb1⟩
    obtain ⟨hc1, hf1⟩ := bcell hb1
    go_wp2_with fail
    refine (H1.out _).mono ?_; rintro e w' ⟨rfl, rfl⟩
    go_wp2_with fail
    refine (H2.out _).mono ?_; rintro e w' ⟨rfl, rfl⟩
    have hB1 : Below w.heap.size w w1 := bfin (by go_grown) hb1
    go_wp2_with fail
    go_ret2
    exact ⟨rfl, by go_grown⟩
  · rw [show memRes fam n a b c d = (memB fam n a b c d, 0) by simp [memRes, hM, hf, hn]]
    rw [hn] at H2
    have HI := Lib.hid (fun W => isMember_any fam n a b c d W (isMat_iff.1 hM) (inB_iff.1 hf).1 (inB_iff.1 hf).2 (inB_iff.1 hn).1)
    generalize memB fam n a b c d = R at *
    go_enter Tryz.func6, Tryz.ntmps6
    go_wp2_with fail
    refine (H0.out _).mono ?_; rintro e w1 ⟨rfl, hb1⟩
    obtain ⟨hc1, hf1⟩ := bcell hb1
    go_wp2_with fail
    refine (H1.out _).mono ?_; rintro e w' ⟨rfl, rfl⟩
    go_wp2_with fail
    refine (H2.out _).mono ?_; rintro e w' ⟨rfl, rfl⟩
    have hz0 : w.heap.size < w1.heap.size := by have := hb1.size; (try simp at this); omega
    go_wp2_with fail
    refine (HI.out _).mono ?_; rintro e w2 ⟨rfl, hb2⟩
    replace hb2 := bstep hb1 hb2
    clear hc1 hf1 hb1
    obtain ⟨hc2, hf2⟩ := bcell hb2
    have hB2 : Below w.heap.size w w2 := bfin (by go_grown) hb2
    go_wp2_with fail
    go_ret2
    exact ⟨rfl, by go_grown⟩
set_option maxHeartbeats 2000000 in
theorem sIsMember_any (fam n a b c d : Int) (w : World) :
    Calls Tryz.prog 7 #[(.int .i64 fam), (.int .i64 n), (.agg #[.int .i64 a, .int .i64 b, .int .i64 c, .int .i64 d])] w fun e w' => e = .returned (.tuple #[.bool (memRes fam n a b c d).1, (.int .i64 ((memRes fam n a b c d).2))]) ∧ Below w.heap.size w w' := by
  have H1 := Lib.hid (fun W => l01In_any fam 0 2 W)
  have H2 := Lib.hid (fun W => l01In_any n 1 1000000 W)
  have H0 := Lib.hid (fun W => l01Is_any a b c d W)
  cases hM : isMat a b c d
  · rw [show memRes fam n a b c d = (false, 1) by simp [memRes, hM]]
    rw [hM] at H0
    go_enter Tryz.func7, Tryz.ntmps7
    go_wp2_with fail
    refine (H0.out _).mono ?_; rintro e w1 ⟨rfl, hb1⟩
    obtain ⟨hc1, hf1⟩ := bcell hb1
    have hB1 : Below w.heap.size w w1 := bfin (by go_grown) hb1
    go_wp2_with fail
    go_ret2
    exact ⟨rfl, by go_grown⟩
  rw [hM] at H0
  cases hf : inB fam 0 2
  · rw [show memRes fam n a b c d = (false, 2) by simp [memRes, hM, hf]]
    rw [hf] at H1
    go_enter Tryz.func7, Tryz.ntmps7
    go_wp2_with fail
    refine (H0.out _).mono ?_; rintro e w1 ⟨rfl, hb1⟩
    obtain ⟨hc1, hf1⟩ := bcell hb1
    go_wp2_with fail
    refine (H1.out _).mono ?_; rintro e w' ⟨rfl, rfl⟩
    have hB1 : Below w.heap.size w w1 := bfin (by go_grown) hb1
    go_wp2_with fail
    go_ret2
    exact ⟨rfl, by go_grown⟩
  rw [hf] at H1
  cases hn : inB n 1 1000000
  · rw [show memRes fam n a b c d = (false, 2) by simp [memRes, hM, hf, hn]]
    rw [hn] at H2
    go_enter Tryz.func7, Tryz.ntmps7
    go_wp2_with fail
    refine (H0.out _).mono ?_; rintro e w1 ⟨rfl, hb1⟩
    obtain ⟨hc1, hf1⟩ := bcell hb1
    go_wp2_with fail
    refine (H1.out _).mono ?_; rintro e w' ⟨rfl, rfl⟩
    go_wp2_with fail
    refine (H2.out _).mono ?_; rintro e w' ⟨rfl, rfl⟩
    have hB1 : Below w.heap.size w w1 := bfin (by go_grown) hb1
    go_wp2_with fail
    go_ret2
    exact ⟨rfl, by go_grown⟩
  · rw [show memRes fam n a b c d = (memB fam n a b c d, 0) by simp [memRes, hM, hf, hn]]
    rw [hn] at H2
    obtain ⟨a0, a1, b0, b1, c0, c1, d0, d1, _⟩ := isMat_iff.1 hM
    obtain ⟨n0, n1⟩ := inB_iff.1 hn
    obtain ⟨f0, f1⟩ := inB_iff.1 hf
    have hnn : n ≠ 0 := by omega
    clear hM hf hn
    rcases ne_or (c.tmod n) with ⟨x1, x2⟩ | ⟨x1, x2⟩
    · rcases (show fam = 0 ∨ fam = 1 ∨ fam = 2 by omega) with rfl | rfl | rfl
      · have E : memB 0 n a b c d = true := by simp only [memB, x2]; rfl
        rw [E]
        clear E
        go_enter Tryz.func7, Tryz.ntmps7
        go_wp2_with fail
        refine (H0.out _).mono ?_; rintro e w1 ⟨rfl, hb1⟩
        obtain ⟨hc1, hf1⟩ := bcell hb1
        have hz0 : w.heap.size < w1.heap.size := by have := hb1.size; (try simp at this); omega
        go_wp2_with fail
        refine (H1.out _).mono ?_; rintro e w' ⟨rfl, rfl⟩
        go_wp2_with fail
        refine (H2.out _).mono ?_; rintro e w' ⟨rfl, rfl⟩
        have hB1 : Below w.heap.size w w1 := bfin (by go_grown) hb1
        go_wp2_with fail
        go_ret2
        exact ⟨rfl, by go_grown⟩
      all_goals
        rcases ne_or ((a - 1).tmod n) with ⟨y1, y2⟩ | ⟨y1, y2⟩ <;> rcases ne_or ((d - 1).tmod n) with ⟨z1, z2⟩ | ⟨z1, z2⟩ <;> rcases ne_or (b.tmod n) with ⟨u1, u2⟩ | ⟨u1, u2⟩
        all_goals
          simp only [memB, x2, y2, z2, u2, Bool.true_and, Bool.false_and, Bool.or_true, Bool.or_false, show ((1 : Int) == 0) = false from rfl, show ((2 : Int) == 0) = false from rfl, show ((1 : Int) == 1) = true from rfl, show ((2 : Int) == 1) = false from rfl]
          go_enter Tryz.func7, Tryz.ntmps7
          go_wp2_with fail
          refine (H0.out _).mono ?_; rintro e w1 ⟨rfl, hb1⟩
          obtain ⟨hc1, hf1⟩ := bcell hb1
          have hz0 : w.heap.size < w1.heap.size := by have := hb1.size; (try simp at this); omega
          go_wp2_with fail
          refine (H1.out _).mono ?_; rintro e w' ⟨rfl, rfl⟩
          go_wp2_with fail
          refine (H2.out _).mono ?_; rintro e w' ⟨rfl, rfl⟩
          have hB1 : Below w.heap.size w w1 := bfin (by go_grown) hb1
          go_wp2_with fail
          go_ret2
          exact ⟨rfl, by go_grown⟩
    · simp only [memB, x2, Bool.false_and]
      go_enter Tryz.func7, Tryz.ntmps7
      go_wp2_with fail
      refine (H0.out _).mono ?_; rintro e w1 ⟨rfl, hb1⟩
      obtain ⟨hc1, hf1⟩ := bcell hb1
      have hz0 : w.heap.size < w1.heap.size := by have := hb1.size; (try simp at this); omega
      go_wp2_with fail
      refine (H1.out _).mono ?_; rintro e w' ⟨rfl, rfl⟩
      go_wp2_with fail
      refine (H2.out _).mono ?_; rintro e w' ⟨rfl, rfl⟩
      have hB1 : Below w.heap.size w w1 := bfin (by go_grown) hb1
      go_wp2_with fail
      go_ret2
      exact ⟨rfl, by go_grown⟩
end Go.Proofs.YtjkemnnkgihefaaGreat
