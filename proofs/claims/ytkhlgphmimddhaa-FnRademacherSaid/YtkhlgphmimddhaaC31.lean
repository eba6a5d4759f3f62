/- Contracts: codes of sums; reciprocity; the law. -/
import Derived.Test.YtkhlgphmimddhaaC30
namespace Go.Proofs.Ytkhlgphmimddhaa
open Go.RowKit
def codeB (h k most : Int) : Bool := entB h && inB k 1 most
def codeOf (h k most : Int) : Int := if codeB h k most = true then (if (Int.gcd h k : Int) = 1 then 0 else 5) else 2
theorem codeB_iff {h k most : Int} : codeB h k most = true ↔ (-1000000000 ≤ h ∧ h ≤ 1000000000) ∧ 1 ≤ k ∧ k ≤ most := by simp [codeB, entB, inB]
theorem codeOf_zero {h k most : Int} (h0 : codeOf h k most = 0) : codeB h k most = true ∧ (Int.gcd h k : Int) = 1 := by
  unfold codeOf at h0
  split at h0
  · split at h0
    · exact ⟨by assumption, by assumption⟩
    · simp at h0
  · simp at h0
theorem sumCode_any (h k most : Int) (w : World) (m1 : most ≤ 1000000) :
    Calls Try.prog 62 #[(.int .i64 h), (.int .i64 k), (.int .i64 most)] w fun e w' => e = .returned (.int .i64 (codeOf h k most)) ∧ Below w.heap.size w w' := by
  cases he : entB h
  · rw [show codeOf h k most = 2 by simp [codeOf, codeB, he]]
    go_enter Try.func62, Try.ntmps62
    go_wp2_with fail
    refine (isEntry_any _ _).mono ?_; rintro e w' ⟨rfl, rfl⟩
    go_wp2_with fail
    go_ret
    exact ⟨rfl, by go_grown⟩
  cases hk : inB k 1 most
  · rw [show codeOf h k most = 2 by simp [codeOf, codeB, hk]]
    go_enter Try.func62, Try.ntmps62
    go_wp2_with fail
    refine (isEntry_any _ _).mono ?_; rintro e w' ⟨rfl, rfl⟩
    go_wp2_with fail
    refine (within_any _ _ _ _).mono ?_; rintro e w' ⟨rfl, rfl⟩
    go_wp2_with fail
    go_ret
    exact ⟨rfl, by go_grown⟩
  have he2 := entB_iff.1 he
  have hk2 : 1 ≤ k ∧ k ≤ most := by simpa [inB] using hk
  have HD := Lib.hid (fun W => divisor_any h k W (by omega) (by omega) (by omega) (by omega))
  have hp := gcd_pos_right (p := h) (show 0 < k by omega)
  have hc : codeOf h k most = if (Int.gcd h k : Int) = 1 then 0 else 5 := by simp [codeOf, codeB, he, hk]
  rw [hc]
  generalize (Int.gcd h k : Int) = G at *
  clear hc
  by_cases hg : G = 1
  · subst hg
    simp only [if_true]
    go_enter Try.func62, Try.ntmps62
    go_wp2_with fail
    refine (isEntry_any _ _).mono ?_; rintro e w' ⟨rfl, rfl⟩
    go_wp2_with fail
    refine (within_any _ _ _ _).mono ?_; rintro e w' ⟨rfl, rfl⟩
    go_wp2_with fail
    refine (HD.out _).mono ?_; rintro e w1 ⟨rfl, hb1⟩
    obtain ⟨hc1, hf1⟩ := bcell hb1
    have hB1 : Below w.heap.size w w1 := bfin (by go_grown) hb1
    go_wp2_with fail
    go_ret
    exact ⟨rfl, by go_grown⟩
  · rw [if_neg hg]
    have hg2 : 1 < G := by omega
    go_enter Try.func62, Try.ntmps62
    go_wp2_with fail
    refine (isEntry_any _ _).mono ?_; rintro e w' ⟨rfl, rfl⟩
    go_wp2_with fail
    refine (within_any _ _ _ _).mono ?_; rintro e w' ⟨rfl, rfl⟩
    go_wp2_with fail
    refine (HD.out _).mono ?_; rintro e w1 ⟨rfl, hb1⟩
    obtain ⟨hc1, hf1⟩ := bcell hb1
    have hB1 : Below w.heap.size w w1 := bfin (by go_grown) hb1
    go_wp2_with fail
    go_ret
    exact ⟨rfl, by go_grown⟩
theorem l07Code_any (h k most : Int) (w : World) (m1 : most ≤ 1000000) :
    Calls Try.prog 59 #[(.int .i64 h), (.int .i64 k), (.int .i64 most)] w fun e w' => e = .returned (.int .i64 (codeOf h k most)) ∧ Below w.heap.size w w' := by
  cases he : entB h
  · rw [show codeOf h k most = 2 by simp [codeOf, codeB, he]]
    go_enter Try.func59, Try.ntmps59
    go_wp2_with fail
    refine (l01Entry_any _ _).mono ?_; rintro e w' ⟨rfl, rfl⟩
    go_wp2_with fail
    go_ret
    exact ⟨rfl, by go_grown⟩
  cases hk : inB k 1 most
  · rw [show codeOf h k most = 2 by simp [codeOf, codeB, hk]]
    go_enter Try.func59, Try.ntmps59
    go_wp2_with fail
    refine (l01Entry_any _ _).mono ?_; rintro e w' ⟨rfl, rfl⟩
    go_wp2_with fail
    refine (l01In_any _ _ _ _).mono ?_; rintro e w' ⟨rfl, rfl⟩
    go_wp2_with fail
    go_ret
    exact ⟨rfl, by go_grown⟩
  have he2 := entB_iff.1 he
  have hk2 : 1 ≤ k ∧ k ≤ most := by simpa [inB] using hk
  have HD := Lib.hid (fun W => l01Gcd_any h k W (by omega) (by omega) (by omega) (by omega))
  have hp := gcd_pos_right (p := h) (show 0 < k by omega)
  have hc : codeOf h k most = if (Int.gcd h k : Int) = 1 then 0 else 5 := by simp [codeOf, codeB, he, hk]
  rw [hc]
  generalize (Int.gcd h k : Int) = G at *
  clear hc
  by_cases hg : G = 1
  · subst hg
    simp only [if_true]
    go_enter Try.func59, Try.ntmps59
    go_wp2_with fail
    refine (l01Entry_any _ _).mono ?_; rintro e w' ⟨rfl, rfl⟩
    go_wp2_with fail
    refine (l01In_any _ _ _ _).mono ?_; rintro e w' ⟨rfl, rfl⟩
    go_wp2_with fail
    refine (HD.out _).mono ?_; rintro e w1 ⟨rfl, hb1⟩
    obtain ⟨hc1, hf1⟩ := bcell hb1
    have hB1 : Below w.heap.size w w1 := bfin (by go_grown) hb1
    go_wp2_with fail
    go_ret
    exact ⟨rfl, by go_grown⟩
  · rw [if_neg hg]
    go_enter Try.func59, Try.ntmps59
    go_wp2_with fail
    refine (l01Entry_any _ _).mono ?_; rintro e w' ⟨rfl, rfl⟩
    go_wp2_with fail
    refine (l01In_any _ _ _ _).mono ?_; rintro e w' ⟨rfl, rfl⟩
    go_wp2_with fail
    refine (HD.out _).mono ?_; rintro e w1 ⟨rfl, hb1⟩
    obtain ⟨hc1, hf1⟩ := bcell hb1
    have hB1 : Below w.heap.size w w1 := bfin (by go_grown) hb1
    go_wp2_with fail
    go_ret
    exact ⟨rfl, by go_grown⟩
structure RecBd (h k : Int) : Prop where
  a0 : 0 ≤ h * h
  a1 : h * h ≤ 400000000
  b0 : 0 ≤ k * k
  b1 : k * k ≤ 400000000
  c0 : 0 ≤ 3 * h * k
  c1 : 3 * h * k ≤ 1200000000
  d0 : 0 < 12 * h * k
  d1 : 12 * h * k ≤ 4800000000
theorem recBd {h k : Int} (h0 : 1 ≤ h) (h1 : h ≤ 20000) (k0 : 1 ≤ k) (k1 : k ≤ 20000) : RecBd h k := by
  have e1 := mul_bd (a := h) (b := h) (A := 20000) (B := 20000) (by omega) h1 (by omega) h1
  have e2 := mul_bd (a := k) (b := k) (A := 20000) (B := 20000) (by omega) k1 (by omega) k1
  have e3 := mul_bd (a := h) (b := k) (A := 20000) (B := 20000) (by omega) h1 (by omega) k1
  have e4 : 0 < h * k := Int.mul_pos (by omega) (by omega)
  have e5 : 3 * h * k = 3 * (h * k) := Int.mul_assoc _ _ _
  have e6 : 12 * h * k = 12 * (h * k) := Int.mul_assoc _ _ _
  exact ⟨sq_nn h, by omega, sq_nn k, by omega, by omega, by omega, by omega, by omega⟩
def recRes (h k : Int) : (Int × Int) × Int := if inB h 1 20000 = true then (if codeOf h k 20000 = 0 then ((fx (h * h + k * k + 1 - 3 * h * k) (12 * h * k), fy (h * h + k * k + 1 - 3 * h * k) (12 * h * k)), 0) else ((0, 0), codeOf h k 20000)) else ((0, 0), 2)
set_option maxHeartbeats 1000000 in
theorem ReciprocityOf_any (h k : Int) (w : World) :
    Calls Try.prog 15 #[(.int .i64 h), (.int .i64 k)] w fun e w' => e = .returned (.tuple #[(.agg #[.int .i64 ((recRes h k).1.1), .int .i64 ((recRes h k).1.2)]), (.int .i64 ((recRes h k).2))]) ∧ Below w.heap.size w w' := by
  cases hh : inB h 1 20000
  · rw [show recRes h k = ((0, 0), 2) by simp [recRes, hh]]
    go_enter Try.func15, Try.ntmps15
    go_wp2_with fail
    refine (within_any _ _ _ _).mono ?_; rintro e w' ⟨rfl, rfl⟩
    go_wp2_with fail
    refine bodyPost_ret (v := .tuple #[(.agg #[.int .i64 0, .int .i64 0]), (.int .i64 2)]) (by simp [results, Try.results15, go_sem] <;> rfl) rfl ⟨rfl, by go_grown⟩
  have hh2 : 1 ≤ h ∧ h ≤ 20000 := by simpa [inB] using hh
  have HC := Lib.hid (fun W => sumCode_any h k 20000 W (by omega))
  by_cases hc : codeOf h k 20000 = 0
  · rw [show recRes h k = ((fx (h * h + k * k + 1 - 3 * h * k) (12 * h * k), fy (h * h + k * k + 1 - 3 * h * k) (12 * h * k)), 0) by simp [recRes, hh, hc]]
    have hk2 := (codeB_iff.1 (codeOf_zero hc).1).2
    rw [hc] at HC
    clear hc
    obtain ⟨a0, a1, b0, b1, c0, c1, d0, d1⟩ := recBd hh2.1 hh2.2 hk2.1 hk2.2
    have HR := Lib.hid (fun W => reduced_any (h * h + k * k + 1 - 3 * h * k) (12 * h * k) W (by omega) (by omega) (by omega) (by omega))
    generalize fx (h * h + k * k + 1 - 3 * h * k) (12 * h * k) = X at *
    generalize fy (h * h + k * k + 1 - 3 * h * k) (12 * h * k) = Y at *
    obtain ⟨h0, h1⟩ := hh2
    obtain ⟨k0, k1⟩ := hk2
    go_enter Try.func15, Try.ntmps15
    go_wp2_with fail
    refine (within_any _ _ _ _).mono ?_; rintro e w' ⟨rfl, rfl⟩
    go_wp2_with fail
    refine (HC.out _).mono ?_; rintro e w1 ⟨rfl, hb1⟩
    obtain ⟨hc1, hf1⟩ := bcell hb1
    have hz0 : w.heap.size < w1.heap.size := by have := hb1.size; (try simp at this); omega
    go_wp2_with fail
    refine (HR.out _).mono ?_; rintro e w2 ⟨rfl, hb2⟩
    replace hb2 := bstep hb1 hb2
    clear hc1 hf1 hb1
    obtain ⟨hc2, hf2⟩ := bcell hb2
    have hz0 : w.heap.size < w2.heap.size := by have := hb2.size; (try simp at this); omega
    have hB2 : Below w.heap.size w w2 := bfin (by go_grown) hb2
    go_wp2_with fail
    have hall := And.intro hc2 (hz0)
    refine bodyPost_ret (v := .tuple #[(.agg #[.int .i64 X, .int .i64 Y]), (.int .i64 0)]) (by first | (simp [results, Try.results15, go_sem]; done) | (simp [results, Try.results15, go_sem, hall] <;> rfl)) rfl ⟨rfl, by go_grown⟩
  · rw [show recRes h k = ((0, 0), codeOf h k 20000) by simp [recRes, hh, hc]]
    generalize codeOf h k 20000 = C at *
    go_enter Try.func15, Try.ntmps15
    go_wp2_with fail
    refine (within_any _ _ _ _).mono ?_; rintro e w' ⟨rfl, rfl⟩
    go_wp2_with fail
    refine (HC.out _).mono ?_; rintro e w1 ⟨rfl, hb1⟩
    obtain ⟨hc1, hf1⟩ := bcell hb1
    have hz0 : w.heap.size < w1.heap.size := by have := hb1.size; (try simp at this); omega
    have hB1 : Below w.heap.size w w1 := bfin (by go_grown) hb1
    go_wp2_with fail
    have hall := And.intro hc1 (hz0)
    refine bodyPost_ret (v := .tuple #[(.agg #[.int .i64 0, .int .i64 0]), (.int .i64 C)]) (by first | (simp [results, Try.results15, go_sem]; done) | (simp [results, Try.results15, go_sem, hall] <;> rfl)) rfl ⟨rfl, by go_grown⟩
set_option maxHeartbeats 1000000 in
theorem sReciprocityOf_any (h k : Int) (w : World) :
    Calls Try.prog 14 #[(.int .i64 h), (.int .i64 k)] w fun e w' => e = .returned (.tuple #[(.agg #[.int .i64 ((recRes h k).1.1), .int .i64 ((recRes h k).1.2)]), (.int .i64 ((recRes h k).2))]) ∧ Below w.heap.size w w' := by
  cases hh : inB h 1 20000
  · rw [show recRes h k = ((0, 0), 2) by simp [recRes, hh]]
    go_enter Try.func14, Try.ntmps14
    go_wp2_with fail
    refine (l01In_any _ _ _ _).mono ?_; rintro e w' ⟨rfl, rfl⟩
    go_wp2_with fail
    refine bodyPost_ret (v := .tuple #[(.agg #[.int .i64 0, .int .i64 0]), (.int .i64 2)]) (by simp [results, Try.results14, go_sem] <;> rfl) rfl ⟨rfl, by go_grown⟩
  have hh2 : 1 ≤ h ∧ h ≤ 20000 := by simpa [inB] using hh
  have HC := Lib.hid (fun W => l07Code_any h k 20000 W (by omega))
  by_cases hc : codeOf h k 20000 = 0
  · rw [show recRes h k = ((fx (h * h + k * k + 1 - 3 * h * k) (12 * h * k), fy (h * h + k * k + 1 - 3 * h * k) (12 * h * k)), 0) by simp [recRes, hh, hc]]
    have hk2 := (codeB_iff.1 (codeOf_zero hc).1).2
    rw [hc] at HC
    clear hc
    obtain ⟨a0, a1, b0, b1, c0, c1, d0, d1⟩ := recBd hh2.1 hh2.2 hk2.1 hk2.2
    have HR := Lib.hid (fun W => l01Reduced_any (h * h + k * k + 1 - 3 * h * k) (12 * h * k) W (by omega) (by omega) (by omega) (by omega))
    generalize fx (h * h + k * k + 1 - 3 * h * k) (12 * h * k) = X at *
    generalize fy (h * h + k * k + 1 - 3 * h * k) (12 * h * k) = Y at *
    obtain ⟨h0, h1⟩ := hh2
    obtain ⟨k0, k1⟩ := hk2
    go_enter Try.func14, Try.ntmps14
    go_wp2_with fail
    refine (l01In_any _ _ _ _).mono ?_; rintro e w' ⟨rfl, rfl⟩
    go_wp2_with fail
    refine (HC.out _).mono ?_; rintro e w1 ⟨rfl, hb1⟩
    obtain ⟨hc1, hf1⟩ := bcell hb1
    have hz0 : w.heap.size < w1.heap.size := by have := hb1.size; (try simp at this); omega
    go_wp2_with fail
    refine (HR.out _).mono ?_; rintro e w2 ⟨rfl, hb2⟩
    replace hb2 := bstep hb1 hb2
    clear hc1 hf1 hb1
    obtain ⟨hc2, hf2⟩ := bcell hb2
    have hz0 : w.heap.size < w2.heap.size := by have := hb2.size; (try simp at this); omega
    have hB2 : Below w.heap.size w w2 := bfin (by go_grown) hb2
    go_wp2_with fail
    have hall := And.intro hc2 (hz0)
    refine bodyPost_ret (v := .tuple #[(.agg #[.int .i64 X, .int .i64 Y]), (.int .i64 0)]) (by first | (simp [results, Try.results14, go_sem]; done) | (simp [results, Try.results14, go_sem, hall] <;> rfl)) rfl ⟨rfl, by go_grown⟩
  · rw [show recRes h k = ((0, 0), codeOf h k 20000) by simp [recRes, hh, hc]]
    generalize codeOf h k 20000 = C at *
    go_enter Try.func14, Try.ntmps14
    go_wp2_with fail
    refine (l01In_any _ _ _ _).mono ?_; rintro e w' ⟨rfl, rfl⟩
    go_wp2_with fail
    refine (HC.out _).mono ?_; rintro e w1 ⟨rfl, hb1⟩
    obtain ⟨hc1, hf1⟩ := bcell hb1
    have hz0 : w.heap.size < w1.heap.size := by have := hb1.size; (try simp at this); omega
    have hB1 : Below w.heap.size w w1 := bfin (by go_grown) hb1
    go_wp2_with fail
    have hall := And.intro hc1 (hz0)
    refine bodyPost_ret (v := .tuple #[(.agg #[.int .i64 0, .int .i64 0]), (.int .i64 C)]) (by first | (simp [results, Try.results14, go_sem]; done) | (simp [results, Try.results14, go_sem, hall] <;> rfl)) rfl ⟨rfl, by go_grown⟩
set_option maxHeartbeats 1000000 in
theorem lawFnExactReciprocityOf (h k : Int) (_ : I64 h) (_ : I64 k) (w : World) :
    Calls Try.prog 3 #[(.int .i64 h), (.int .i64 k)] w fun e w' => e = .returned (.bool true) ∧ Below w.heap.size w w' := by
  have HS := Lib.hid (sReciprocityOf_any h k)
  have HI := Lib.hid (ReciprocityOf_any h k)
  generalize recRes h k = R at HS HI
  obtain ⟨⟨x, y⟩, R2⟩ := R
  have hn2 : (R2 != R2) = false := by simp
  go_enter Try.func3, Try.ntmps3
  go_wp2_with fail
  refine (HS.out _).mono ?_; rintro e w1 ⟨rfl, hb1⟩
  obtain ⟨hc1, hf1⟩ := bcell hb1
  have hs1 := hb1.size
  have hB1 : Below w.heap.size w w1 := bfin (by go_grown) hb1
  go_wp2_with fail
  refine (HI.out _).mono ?_; rintro e w2 ⟨rfl, hb2⟩
  obtain ⟨hc2, hf2⟩ := bcell hb2
  have hz2_0 : w1.heap.size < w2.heap.size := by have := hb2.size; (try simp at this); omega
  have hB2 : Below w.heap.size w w2 := bfin (by go_grown) hb2
  go_wp2_with fail
  refine (eqFraction_same _ _ _).mono ?_; rintro e w3 ⟨rfl, hb3⟩
  obtain ⟨hc3, hf3⟩ := bcell hb3
  have hB3 : Below w.heap.size w w3 := bfin (by go_grown) hb3
  go_wp2_with fail
  go_ret
  exact ⟨rfl, by go_grown⟩
end Go.Proofs.Ytkhlgphmimddhaa
