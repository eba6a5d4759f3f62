/- Contracts: the Dedekind sum as a fraction; the law. -/
import Derived.Test.YtkhlgphmimddhaaC33
namespace Go.Proofs.Ytkhlgphmimddhaa
open Go.RowKit
theorem gcd_scale {m p q : Int} (hm : 0 < m) : (Int.gcd (m * p) (m * q) : Int) = m * (Int.gcd p q : Int) := by
  rw [Int.gcd_mul_left]; push_cast; rw [show ((m.natAbs : Nat) : Int) = m by omega]
theorem fx_scale {m p q : Int} (hm : 0 < m) : fx (m * p) (m * q) = fx p q := by
  unfold fx; rw [gcd_scale hm]; exact Int.mul_tdiv_mul_of_pos _ _ hm
theorem fy_scale {m p q : Int} (hm : 0 < m) : fy (m * p) (m * q) = fy p q := by
  unfold fy; rw [gcd_scale hm]; exact Int.mul_tdiv_mul_of_pos _ _ hm
theorem sum_same {h k : Int} (hk : 0 < k) (hg : Int.gcd h k = 1) : fx (fourZ h k) (4 * k * k) = fx (lZ h k) (12 * k) ∧ fy (fourZ h k) (4 * k * k) = fy (lZ h k) (12 * k) := by
  have e := lZ_eq hk hg
  rw [← fx_scale (m := 3) (by omega), ← fy_scale (m := 3) (by omega), ← e, show 3 * (4 * k * k) = k * (12 * k) by grind]
  exact ⟨fx_scale hk, fy_scale hk⟩
structure KBd (k : Int) : Prop where
  a0 : 0 < 4 * k * k
  a1 : 4 * k * k ≤ 1600000000
theorem kBd {k : Int} (k0 : 1 ≤ k) (k1 : k ≤ 20000) : KBd k := by
  have e := mul_bd (a := k) (b := k) (A := 20000) (B := 20000) (by omega) (by omega) (by omega) (by omega)
  have e2 : 0 < k * k := Int.mul_pos (by omega) (by omega)
  have e3 : 4 * k * k = 4 * (k * k) := Int.mul_assoc _ _ _
  exact ⟨by omega, by omega⟩
theorem sumOf_any (h k : Int) (w : World) (k0 : 1 ≤ k) (k1 : k ≤ 20000) :
    Calls Try.prog 68 #[(.int .i64 h), (.int .i64 k)] w fun e w' => e = .returned (.agg #[.int .i64 (fx (fourZ h k) (4 * k * k)), .int .i64 (fy (fourZ h k) (4 * k * k))]) ∧ Below w.heap.size w w' := by
  obtain ⟨a0, a1⟩ := kBd k0 k1
  have hb := fourZ_bd (h := h) k1
  have HF := Lib.hid (fun W => fourTimes_any h k W k0 k1)
  have HR := Lib.hid (fun W => reduced_any (fourZ h k) (4 * k * k) W (by omega) (by omega) (by omega) (by omega))
  generalize fx (fourZ h k) (4 * k * k) = X at *
  generalize fy (fourZ h k) (4 * k * k) = Y at *
  generalize fourZ h k = F at *
  go_enter Try.func68, Try.ntmps68
  go_wp2_with fail
  refine (HF.out _).mono ?_; rintro e w' ⟨rfl, rfl⟩
  go_wp2_with fail
  refine (HR.out _).mono ?_; rintro e w1 ⟨rfl, hb1⟩
  obtain ⟨hc1, hf1⟩ := bcell hb1
  have hz0 : w.heap.size < w1.heap.size := by have := hb1.size; (try simp at this); omega
  have hB1 : Below w.heap.size w w1 := bfin (by go_grown) hb1
  go_wp2_with fail
  have hall := And.intro hc1 (hz0)
  refine bodyPost_ret (v := (.agg #[.int .i64 X, .int .i64 Y])) (by first | (simp [results, Try.results68, go_sem]; done) | (simp [results, Try.results68, go_sem, hall] <;> rfl)) rfl ⟨rfl, by go_grown⟩
def dedRes (h k : Int) : (Int × Int) × Int := if codeOf h k 20000 = 0 then ((fx (lZ h k) (12 * k), fy (lZ h k) (12 * k)), 0) else ((0, 0), codeOf h k 20000)
theorem DedekindSum_any (h k : Int) (w : World) :
    Calls Try.prog 20 #[(.int .i64 h), (.int .i64 k)] w fun e w' => e = .returned (.tuple #[(.agg #[.int .i64 ((dedRes h k).1.1), .int .i64 ((dedRes h k).1.2)]), (.int .i64 ((dedRes h k).2))]) ∧ Below w.heap.size w w' := by
  have HC := Lib.hid (fun W => sumCode_any h k 20000 W (by omega))
  by_cases hc : codeOf h k 20000 = 0
  · rw [show dedRes h k = ((fx (lZ h k) (12 * k), fy (lZ h k) (12 * k)), 0) by simp [dedRes, hc]]
    obtain ⟨hk2, hg⟩ := codeOf_zero hc
    have hk3 := (codeB_iff.1 hk2).2
    have HS := Lib.hid (fun W => sumOf_any h k W hk3.1 hk3.2)
    obtain ⟨s1, s2⟩ := sum_same (show 0 < k by omega) (by exact_mod_cast hg : Int.gcd h k = 1)
    rw [s1, s2] at HS
    rw [hc] at HC
    clear hc hk2 hg hk3 s1 s2
    generalize fx (lZ h k) (12 * k) = X at *
    generalize fy (lZ h k) (12 * k) = Y at *
    go_enter Try.func20, Try.ntmps20
    go_wp2_with fail
    refine (HC.out _).mono ?_; rintro e w1 ⟨rfl, hb1⟩
    obtain ⟨hc1, hf1⟩ := bcell hb1
    have hz0 : w.heap.size < w1.heap.size := by have := hb1.size; (try simp at this); omega
    go_wp2_with fail
    refine (HS.out _).mono ?_; rintro e w2 ⟨rfl, hb2⟩
    replace hb2 := bstep hb1 hb2
    clear hc1 hf1 hb1
    obtain ⟨hc2, hf2⟩ := bcell hb2
    have hz0 : w.heap.size < w2.heap.size := by have := hb2.size; (try simp at this); omega
    have hB2 : Below w.heap.size w w2 := bfin (by go_grown) hb2
    go_wp2_with fail
    have hall := And.intro hc2 (hz0)
    refine bodyPost_ret (v := .tuple #[(.agg #[.int .i64 X, .int .i64 Y]), (.int .i64 0)]) (by first | (simp [results, Try.results20, go_sem]; done) | (simp [results, Try.results20, go_sem, hall] <;> rfl)) rfl ⟨rfl, by go_grown⟩
  · rw [show dedRes h k = ((0, 0), codeOf h k 20000) by simp [dedRes, hc]]
    generalize codeOf h k 20000 = C at *
    go_enter Try.func20, Try.ntmps20
    go_wp2_with fail
    refine (HC.out _).mono ?_; rintro e w1 ⟨rfl, hb1⟩
    obtain ⟨hc1, hf1⟩ := bcell hb1
    have hz0 : w.heap.size < w1.heap.size := by have := hb1.size; (try simp at this); omega
    have hB1 : Below w.heap.size w w1 := bfin (by go_grown) hb1
    go_wp2_with fail
    have hall := And.intro hc1 (hz0)
    refine bodyPost_ret (v := .tuple #[(.agg #[.int .i64 0, .int .i64 0]), (.int .i64 C)]) (by first | (simp [results, Try.results20, go_sem]; done) | (simp [results, Try.results20, go_sem, hall] <;> rfl)) rfl ⟨rfl, by go_grown⟩
theorem sDedekindSum_any (h k : Int) (w : World) :
    Calls Try.prog 19 #[(.int .i64 h), (.int .i64 k)] w fun e w' => e = .returned (.tuple #[(.agg #[.int .i64 ((dedRes h k).1.1), .int .i64 ((dedRes h k).1.2)]), (.int .i64 ((dedRes h k).2))]) ∧ Below w.heap.size w w' := by
  have HC := Lib.hid (fun W => l07Code_any h k 20000 W (by omega))
  by_cases hc : codeOf h k 20000 = 0
  · rw [show dedRes h k = ((fx (lZ h k) (12 * k), fy (lZ h k) (12 * k)), 0) by simp [dedRes, hc]]
    obtain ⟨hk2, hg⟩ := codeOf_zero hc
    obtain ⟨k0, k1⟩ := (codeB_iff.1 hk2).2
    have hg' : Int.gcd h k = 1 := by exact_mod_cast hg
    have hb := lZ_bd k0 k1 hg'
    have HL := Lib.hid (fun W => l07Sum_all _ h k W (Nat.le_refl _) k0 k1 hg')
    have HS := Lib.hid (fun W => l01Reduced_any (lZ h k) (12 * k) W (by omega) (by omega) (by omega) (by omega))
    rw [hc] at HC
    clear hc hk2 hg hg'
    generalize fx (lZ h k) (12 * k) = X at *
    generalize fy (lZ h k) (12 * k) = Y at *
    generalize lZ h k = L at *
    go_enter Try.func19, Try.ntmps19
    go_wp2_with fail
    refine (HC.out _).mono ?_; rintro e w1 ⟨rfl, hb1⟩
    obtain ⟨hc1, hf1⟩ := bcell hb1
    have hz0 : w.heap.size < w1.heap.size := by have := hb1.size; (try simp at this); omega
    go_wp2_with fail
    refine (HL.out _).mono ?_; rintro e w' ⟨rfl, rfl⟩
    go_wp2_with fail
    refine (HS.out _).mono ?_; rintro e w2 ⟨rfl, hb2⟩
    replace hb2 := bstep hb1 hb2
    clear hc1 hf1 hb1
    obtain ⟨hc2, hf2⟩ := bcell hb2
    have hz0 : w.heap.size < w2.heap.size := by have := hb2.size; (try simp at this); omega
    have hB2 : Below w.heap.size w w2 := bfin (by go_grown) hb2
    go_wp2_with fail
    have hall := And.intro hc2 (hz0)
    refine bodyPost_ret (v := .tuple #[(.agg #[.int .i64 X, .int .i64 Y]), (.int .i64 0)]) (by first | (simp [results, Try.results19, go_sem]; done) | (simp [results, Try.results19, go_sem, hall] <;> rfl)) rfl ⟨rfl, by go_grown⟩
  · rw [show dedRes h k = ((0, 0), codeOf h k 20000) by simp [dedRes, hc]]
    generalize codeOf h k 20000 = C at *
    go_enter Try.func19, Try.ntmps19
    go_wp2_with fail
    refine (HC.out _).mono ?_; rintro e w1 ⟨rfl, hb1⟩
    obtain ⟨hc1, hf1⟩ := bcell hb1
    have hz0 : w.heap.size < w1.heap.size := by have := hb1.size; (try simp at this); omega
    have hB1 : Below w.heap.size w w1 := bfin (by go_grown) hb1
    go_wp2_with fail
    have hall := And.intro hc1 (hz0)
    refine bodyPost_ret (v := .tuple #[(.agg #[.int .i64 0, .int .i64 0]), (.int .i64 C)]) (by first | (simp [results, Try.results19, go_sem]; done) | (simp [results, Try.results19, go_sem, hall] <;> rfl)) rfl ⟨rfl, by go_grown⟩
theorem lawFnExactDedekindSum (h k : Int) (_ : I64 h) (_ : I64 k) (w : World) :
    Calls Try.prog 5 #[(.int .i64 h), (.int .i64 k)] w fun e w' => e = .returned (.bool true) ∧ Below w.heap.size w w' := by
  have HS := Lib.hid (sDedekindSum_any h k)
  have HI := Lib.hid (DedekindSum_any h k)
  generalize dedRes h k = R at HS HI
  obtain ⟨⟨x, y⟩, R2⟩ := R
  have hn2 : (R2 != R2) = false := by simp
  go_enter Try.func5, Try.ntmps5
  go_wp2_with fail
  refine (HS.out _).mono ?_; rintro e w1 ⟨rfl, hb1⟩
  obtain ⟨hc1, hf1⟩ := bcell hb1
  have hs1 := hb1.size
  have hB1 : Below w.heap.size w w1 := bfin (by go_grown) hb1
  go_wp2_with fail
  refine (HI.out _).mono ?_; rintro e w2 ⟨rfl, hb2⟩
  obtain ⟨hc2, hf2⟩ := bcell hb2
  have hz2_0 : w1.heap.size < w2.heap.size := by have := hb2.size; (try simp at this); omega
  have hB2 : Below w.heap.size w w2 := bfin (by go_grown) hb2
  go_wp2_with fail
  refine (eqFraction_same _ _ _).mono ?_; rintro e w3 ⟨rfl, hb3⟩
  obtain ⟨hc3, hf3⟩ := bcell hb3
  have hB3 : Below w.heap.size w w3 := bfin (by go_grown) hb3
  go_wp2_with fail
  go_ret
  exact ⟨rfl, by go_grown⟩
end Go.Proofs.Ytkhlgphmimddhaa
