/- The law RelationsOf. -/
import Derived.Test.YtjgnhnbhcnfdbaaC107
namespace Go.Proofs.Ytjgnhnbhcnfdbaa
open Go.RowKit
theorem relA_rows (len : Nat) (S : List Int) : ∀ k, ∀ x ∈ relA len S k, x.length = len
  | 0, x, h => by simp [relA] at h
  | k + 1, x, h => by
    rw [relA, List.mem_append] at h
    rcases h with h | h
    · exact relA_rows len S k x h
    · simp at h; subst h; exact rowR_len _ _
theorem relB_rows (len : Nat) (U : List Int) : ∀ k, ∀ x ∈ relB len U k, x.length = len
  | 0, x, h => by simp [relB] at h
  | k + 1, x, h => by
    rw [relB, List.mem_append] at h
    rcases h with h | h
    · exact relB_rows len U k x h
    · simp at h; subst h; exact rowR_len _ _
theorem getD_len {X : List (List Int)} {K : Nat} (h : ∀ x ∈ X, x.length = K) (i : Nat) : (X.getD i []).length ≤ K := by
  rw [List.getD_eq_getElem?_getD]
  by_cases hi : i < X.length
  · rw [List.getElem?_eq_getElem hi]
    have := h _ (List.getElem_mem hi)
    simp only [Option.getD_some]; omega
  · rw [List.getElem?_eq_none (by omega)]; simp
theorem rlsRes_n (n : Int) : (rlsRes n).n ≤ 1000000 ∧ offs (rlsRes n).xss (rlsRes n).n ≤ 1000000000 := by
  unfold rlsRes
  split
  · rename_i h
    obtain ⟨n0, n1, hl72⟩ := lcode_zero h
    have h3 := offs_le (xss := relL n) (K := (lineL n).length) (fun i => getD_len (fun x hx => by
      unfold relL at hx
      rw [List.mem_append] at hx
      rcases hx with hx | hx
      · exact relA_rows _ _ _ x hx
      · exact relB_rows _ _ _ x hx) i) ((lineL n).length + (lineL n).length)
    have h4 := Nat.mul_le_mul (show (lineL n).length + (lineL n).length ≤ 200 by omega) (show (lineL n).length ≤ 200 by omega)
    exact ⟨by simp only; omega, by simp only; omega⟩
  · simp [offs]
set_option maxRecDepth 100000 in
set_option maxHeartbeats 2000000 in
theorem lawFnExactRelationsOf (n : Int) (_ : I64 n) (w : World) :
    Calls Try.prog 12 #[(.int .i64 n)] w fun e w' => e = .returned (.bool true) ∧ Below w.heap.size w w' := by
  have HS := Lib.hid (sRelationsOf_any n)
  have HI := Lib.hid (RelationsOf_any n)
  have hn := rlsRes_n n
  generalize rlsRes n = R at HS HI hn
  obtain ⟨xss, n, c⟩ := R
  obtain ⟨hn, ho⟩ : n ≤ 1000000 ∧ offs xss n ≤ 1000000000 := hn
  go_enter Try.func12, Try.ntmps12
  have hn2 : (c != c) = false := by simp
  have hml : n ≤ maxLen := by unfold maxLen; omega
  have HO := Lib.hid ho
  obtain ⟨q, hq⟩ : ∃ q, offs xss n = q := ⟨_, rfl⟩
  have HQ := Lib.hid hq
  rw [hq] at ho
  clear hq
  go_wp2_with fail
  refine (HS.out _).mono ?_; rintro e w1 ⟨v0, inn0, rfl, ho0, hb1⟩
  obtain ⟨A0, cap0, rfl, -, -, -⟩ := own_view ho0.out
  have O0 := Lib.hid ho0
  clear ho0
  go_wp2_with fail
  refine (HI.out _).mono ?_; rintro e w2 ⟨v1, inn1, rfl, ho1, hb2⟩
  obtain ⟨A1, cap1, rfl, -, -, -⟩ := own_view ho1.out
  have O1 := Lib.hid ho1
  clear ho1
  go_wp2_with fail
  refine (eqInt64SS_same A1 A0 n cap1 cap0 _ _ _ _ xss w2 hml O1.out (O0.out.below hb2)).mono ?_; rintro e w3 ⟨rfl, hb3⟩
  have O3 := Lib.hid (O1.out.below hb3)
  have T3 := hb2.trans (hb3.mono hb2.size)
  have M := Lib.hid (markInt64SS_any (.slice A1 n cap1) n w1.heap.size inn1 xss 1 w3 (by omega) (by omega) (by have := HO.out; omega) O3.out)
  rw [HQ.out] at M
  go_wp2_with fail
  refine (M.out).mono ?_; rintro e w4 ⟨rfl, ho4, hu4⟩
  have T4 := T3.trans (hu4.below T3.size)
  have O4 := Lib.hid ho4
  clear ho4 hu4 M
  have hm0 : ¬ ((1 : Int) + (q : Int) < 0) := by omega
  have hm1 : ((1 : Int) + (q : Int) != 1 + (q : Int)) = false := by simp
  have G4 := Lib.hid (heldInt64SS_any (.slice A1 n cap1) n _ inn1 xss 1 w4 (by omega) (by omega) (by have := HO.out; omega) O4.out)
  rw [HQ.out] at G4
  go_wp2_with fail
  refine (G4.out).mono ?_; rintro e w5 ⟨rfl, hb5⟩
  clear G4
  have T5 := T4.trans (hb5.mono T4.size)
  have O5 := Lib.hid (O4.out.below hb5)
  go_wp2_with fail
  refine (HI.out _).mono ?_; rintro e w6 ⟨v2, inn2, rfl, ho6, hb6⟩
  obtain ⟨A2, cap2, rfl, -, -, -⟩ := own_view ho6.out
  have O6' := Lib.hid ho6
  clear ho6
  have T6 := T5.trans (hb6.mono T5.size)
  have O6 := Lib.hid (O5.out.below hb6)
  go_wp2_with fail
  refine (eqInt64SS_same A2 A0 n cap2 cap0 _ _ _ _ xss w6 hml O6'.out (O0.out.below T6)).mono ?_; rintro e w7 ⟨rfl, hb7⟩
  have T7 := T6.trans (hb7.mono T6.size)
  have O7 := Lib.hid (O6.out.below hb7)
  have G7 := Lib.hid (heldInt64SS_any (.slice A1 n cap1) n _ inn1 xss 1 w7 (by omega) (by omega) (by have := HO.out; omega) O7.out)
  rw [HQ.out] at G7
  go_wp2_with fail
  refine (G7.out).mono ?_; rintro e w8 ⟨rfl, hb8⟩
  have T8 := T7.trans (hb8.mono T7.size)
  go_wp2_with fail
  go_ret
  exact ⟨rfl, hb1.trans (T8.mono hb1.size)⟩
end Go.Proofs.Ytjgnhnbhcnfdbaa
