/- Contracts: how often a row of a positive matrix can be taken from the other; what a positive matrix is. -/
import Derived.Test.YtencfmipplgnkaaC2
import Derived.Test.YtencfmipplgnkaaNa
import Derived.Lib.MinMax
namespace Go.Proofs.Ytencfmipplgnkaa
open Go.RowKit
theorem tdiv_le {a b : Int} (a0 : 0 ≤ a) (b0 : 0 < b) : 0 ≤ a.tdiv b ∧ a.tdiv b ≤ a := by
  refine ⟨Int.tdiv_nonneg a0 (by omega), ?_⟩
  rw [Int.tdiv_eq_ediv_of_nonneg a0]
  exact Int.ediv_le_self _ a0
theorem often_any (a b c d n : Int) (w : World) (ha : 0 ≤ a ∧ a ≤ 1000000000) (hb : 0 ≤ b ∧ b ≤ 1000000000) (hc : 0 ≤ c ∧ c ≤ 1000000000) (hd : 0 ≤ d ∧ d ≤ 1000000000)
    (h : (c = 0 ∧ 0 < d ∧ b.tdiv d = n) ∨ (0 < c ∧ d = 0 ∧ a.tdiv c = n) ∨ (0 < c ∧ 0 < d ∧ min (a.tdiv c) (b.tdiv d) = n)) :
    Calls Try.prog 147 #[(.int .i64 a), (.int .i64 b), (.int .i64 c), (.int .i64 d)] w fun e w' => e = .returned (.int .i64 n) ∧ Below w.heap.size w w' := by
  obtain ⟨a0, a1⟩ := ha
  obtain ⟨b0, b1⟩ := hb
  obtain ⟨c0, c1⟩ := hc
  obtain ⟨d0, d1⟩ := hd
  rcases h with ⟨h1, h2, h3⟩ | ⟨h1, h2, h3⟩ | ⟨h1, h2, h3⟩
  · subst h1
    have hd' : (d == 0) = false := by simp; omega
    have hd2 : d ≠ 0 := by omega
    obtain ⟨q0, q1⟩ := tdiv_le b0 h2
    go_enter Try.func147, Try.ntmps147
    go_wp2_with fail
    go_ret
    exact ⟨rfl, by go_grown⟩
  · subst h2
    have hc' : (c == 0) = false := by simp; omega
    have hc2 : c ≠ 0 := by omega
    obtain ⟨q0, q1⟩ := tdiv_le a0 h1
    go_enter Try.func147, Try.ntmps147
    go_wp2_with fail
    go_ret
    exact ⟨rfl, by go_grown⟩
  · have hc' : (c == 0) = false := by simp; omega
    have hc2 : c ≠ 0 := by omega
    have hd' : (d == 0) = false := by simp; omega
    have hd2 : d ≠ 0 := by omega
    obtain ⟨q0, q1⟩ := tdiv_le a0 h1
    obtain ⟨p0, p1⟩ := tdiv_le b0 h2
    go_enter Try.func147, Try.ntmps147
    go_wp2_with fail
    refine wp_region_ext (by kernel_rfl) (by kernel_rfl) ?_
    repeat (go_big_quiet_step (fail))
    refine wpQuiet_nil ?_
    intro w1 hb1
    obtain ⟨hc1, hf1⟩ := bcell hb1
    go_wp2_with fail
    go_ret
    exact ⟨by rw [← h3]; rfl, by go_grown⟩
theorem run_min_int4 {P : Program} (w : World) (ts : Array TypeId) (t : TypeId) (k k' k'' k3 : IntKind) (a b c d : Int) :
    (Builtin.min_ ts t #[.int k a, .int k' b, .int k'' c, .int k3 d]).run P w = .ok (.int k (if d < (if c < (if b < a then b else a) then c else if b < a then b else a) then d else if c < (if b < a then b else a) then c else if b < a then b else a)) w := by
  simp [Builtin.min_, Builtin.min2]
attribute [local go_sem] run_min_int4
theorem isPositive_yes (a b c d : Int) (w : World) (ha : 0 ≤ a) (hb : 0 ≤ b) (hc : 0 ≤ c) (hd : 0 ≤ d) :
    Calls Try.prog 146 #[(.agg #[.int .i64 a, .int .i64 b, .int .i64 c, .int .i64 d])] w fun e w' => e = .returned (.bool true) ∧ Below w.heap.size w w' := by
  go_enter Try.func146, Try.ntmps146
  go_wp2_with fail
  all_goals go_ret
  all_goals exact ⟨ret_bool (by simp <;> omega), by go_grown⟩
theorem positiveCode_yes (a b c d : Int) (w : World) (hm : isMat a b c d = true) (ha : 0 ≤ a) (hb : 0 ≤ b) (hc : 0 ≤ c) (hd : 0 ≤ d) :
    Calls Try.prog 120 #[(.agg #[.int .i64 a, .int .i64 b, .int .i64 c, .int .i64 d])] w fun e w' => e = .returned (.int .i64 0) ∧ Below w.heap.size w w' := by
  have HI := Lib.hid (fun W => IsMatrix_any a b c d W)
  rw [hm] at HI
  have HP := Lib.hid (fun W => isPositive_yes a b c d W ha hb hc hd)
  go_enter Try.func120, Try.ntmps120
  go_wp2_with fail
  refine (HI.out _).mono ?_; rintro e w1 ⟨rfl, hb1⟩
  obtain ⟨hc1, hf1⟩ := bcell hb1
  have hB1 : Below w.heap.size w w1 := bfin (by go_grown) hb1
  go_wp2_with fail
  refine (HP.out _).mono ?_; rintro e w2 ⟨rfl, hb2⟩
  obtain ⟨hc2, hf2⟩ := bcell hb2
  go_wp2_with fail
  go_ret
  exact ⟨rfl, bfin (by go_grown) hb2⟩
theorem l02Positive_yes (a b c d : Int) (w : World) (ha : 0 ≤ a) (hb : 0 ≤ b) (hc : 0 ≤ c) (hd : 0 ≤ d) :
    Calls Try.prog 144 #[(.agg #[.int .i64 a, .int .i64 b, .int .i64 c, .int .i64 d])] w fun e w' => e = .returned (.bool true) ∧ Below w.heap.size w w' := by
  go_enter Try.func144, Try.ntmps144
  go_wp2_with fail
  all_goals go_ret
  all_goals exact ⟨ret_bool (by simp <;> omega), by go_grown⟩
theorem l02Given_yes (a b c d : Int) (w : World) (hm : isMat a b c d = true) (ha : 0 ≤ a) (hb : 0 ≤ b) (hc : 0 ≤ c) (hd : 0 ≤ d) :
    Calls Try.prog 118 #[(.agg #[.int .i64 a, .int .i64 b, .int .i64 c, .int .i64 d])] w fun e w' => e = .returned (.int .i64 0) ∧ Below w.heap.size w w' := by
  have HI := Lib.hid (fun W => l01Is_any a b c d W)
  rw [hm] at HI
  have HP := Lib.hid (fun W => l02Positive_yes a b c d W ha hb hc hd)
  go_enter Try.func118, Try.ntmps118
  go_wp2_with fail
  refine (HI.out _).mono ?_; rintro e w1 ⟨rfl, hb1⟩
  obtain ⟨hc1, hf1⟩ := bcell hb1
  have hB1 : Below w.heap.size w w1 := bfin (by go_grown) hb1
  go_wp2_with fail
  refine (HP.out _).mono ?_; rintro e w2 ⟨rfl, hb2⟩
  obtain ⟨hc2, hf2⟩ := bcell hb2
  go_wp2_with fail
  go_ret
  exact ⟨rfl, bfin (by go_grown) hb2⟩
theorem l02Unit_any (w : World) :
    Calls Try.prog 145 #[] w fun e w' => e = .returned (.agg #[.int .i64 1, .int .i64 0, .int .i64 0, .int .i64 1]) ∧ Below w.heap.size w w' := by
  go_enter Try.func145, Try.ntmps145
  go_wp2_with fail
  refine bodyPost_ret (v := (.agg #[.int .i64 1, .int .i64 0, .int .i64 0, .int .i64 1])) (by simp [results, Try.results145, go_sem] <;> rfl) rfl ⟨rfl, by go_grown⟩
end Go.Proofs.Ytencfmipplgnkaa
