/- Contracts: names of matrices of the kind 1; the law EllipticName. -/
import Derived.Test.YtencfmipplgnkaaC70
namespace Go.Proofs.Ytencfmipplgnkaa
open Go.RowKit
def nameE (t c : Int) : ByteArray := if 0 < c then (if t = -1 then ⟨#[86]⟩ else if t = 0 then ⟨#[83]⟩ else ⟨#[85]⟩) else (if t = -1 then ⟨#[45, 85]⟩ else if t = 0 then ⟨#[45, 83]⟩ else ⟨#[45, 86]⟩)
theorem kind_one {a b c d : Int} (h : kindOf a b c d = 1) : (a + d).natAbs < 2 ∧ ¬ (b = 0 ∧ c = 0) := by
  unfold kindOf at h
  split at h
  · omega
  · rename_i hn
    split at h
    · exact ⟨by assumption, hn⟩
    · split at h <;> omega
theorem kind_one_c {a b c d : Int} (hd : a * d - b * c = 1) (h : kindOf a b c d = 1) : (a + d = -1 ∨ a + d = 0 ∨ a + d = 1) ∧ (0 < c ∨ c < 0) := by
  obtain ⟨h1, h2⟩ := kind_one h
  refine ⟨by omega, ?_⟩
  refine Classical.byContradiction fun hc => ?_
  have hc0 : c = 0 := by omega
  subst hc0
  rw [Int.mul_zero, Int.sub_zero] at hd
  have h3 : a ∣ 1 := ⟨d, hd.symm⟩
  have h4 : a = 1 ∨ a = -1 := by
    have := Int.natAbs_dvd_natAbs.2 h3
    have h5 : a.natAbs = 1 := Nat.dvd_one.1 (by simpa using this)
    omega
  rcases h4 with rfl | rfl <;> omega

set_option maxRecDepth 100000 in
set_option maxHeartbeats 4000000 in
theorem ellipticName_any (a b c d : Int) (w : World) (h : IsMat a b c d) (hk : kindOf a b c d = 1) :
    Calls Try.prog 57 #[(.agg #[.int .i64 a, .int .i64 b, .int .i64 c, .int .i64 d])] w fun e w' => e = .returned (.string (nameE (a + d) c)) ∧ Below w.heap.size w w' := by
  have HT := Lib.hid (fun W => trace_any a b c d W h)
  obtain ⟨ht, hc⟩ := kind_one_c h.det hk
  have ⟨a0, a1, b0, b1, c0, c1, d0, d1, _⟩ := h
  clear hk h
  rcases ht with ht | ht | ht <;> rcases hc with hc | hc
  · rw [show nameE (a + d) c = ⟨#[86]⟩ by unfold nameE; rw [ht]; rw [if_pos hc]; rfl]
    rw [ht] at HT
    clear ht
    go_enter Try.func57, Try.ntmps57
    go_wp2_with fail
    refine (HT.out _).mono ?_; rintro e w1 ⟨rfl, hb1⟩
    obtain ⟨hc1, hf1⟩ := bcell hb1
    have hz0 : w.heap.size < w1.heap.size := by have := hb1.size; (try simp at this); omega
    go_wp2_with fail
    have hB1 : Below w.heap.size w w1 := bfin (by go_grown) hb1
    go_ret
    exact ⟨rfl, by go_grown⟩
  · rw [show nameE (a + d) c = ⟨#[45, 85]⟩ by unfold nameE; rw [ht]; rw [if_neg (by omega)]; rfl]
    rw [ht] at HT
    clear ht
    go_enter Try.func57, Try.ntmps57
    go_wp2_with fail
    refine (HT.out _).mono ?_; rintro e w1 ⟨rfl, hb1⟩
    obtain ⟨hc1, hf1⟩ := bcell hb1
    have hz0 : w.heap.size < w1.heap.size := by have := hb1.size; (try simp at this); omega
    go_wp2_with fail
    have hB1 : Below w.heap.size w w1 := bfin (by go_grown) hb1
    go_ret
    exact ⟨rfl, by go_grown⟩
  · rw [show nameE (a + d) c = ⟨#[83]⟩ by unfold nameE; rw [ht]; rw [if_pos hc]; rfl]
    rw [ht] at HT
    clear ht
    go_enter Try.func57, Try.ntmps57
    go_wp2_with fail
    refine (HT.out _).mono ?_; rintro e w1 ⟨rfl, hb1⟩
    obtain ⟨hc1, hf1⟩ := bcell hb1
    have hz0 : w.heap.size < w1.heap.size := by have := hb1.size; (try simp at this); omega
    go_wp2_with fail
    have hB1 : Below w.heap.size w w1 := bfin (by go_grown) hb1
    go_ret
    exact ⟨rfl, by go_grown⟩
  · rw [show nameE (a + d) c = ⟨#[45, 83]⟩ by unfold nameE; rw [ht]; rw [if_neg (by omega)]; rfl]
    rw [ht] at HT
    clear ht
    go_enter Try.func57, Try.ntmps57
    go_wp2_with fail
    refine (HT.out _).mono ?_; rintro e w1 ⟨rfl, hb1⟩
    obtain ⟨hc1, hf1⟩ := bcell hb1
    have hz0 : w.heap.size < w1.heap.size := by have := hb1.size; (try simp at this); omega
    go_wp2_with fail
    have hB1 : Below w.heap.size w w1 := bfin (by go_grown) hb1
    go_ret
    exact ⟨rfl, by go_grown⟩
  · rw [show nameE (a + d) c = ⟨#[85]⟩ by unfold nameE; rw [ht]; rw [if_pos hc]; rfl]
    rw [ht] at HT
    clear ht
    go_enter Try.func57, Try.ntmps57
    go_wp2_with fail
    refine (HT.out _).mono ?_; rintro e w1 ⟨rfl, hb1⟩
    obtain ⟨hc1, hf1⟩ := bcell hb1
    have hz0 : w.heap.size < w1.heap.size := by have := hb1.size; (try simp at this); omega
    go_wp2_with fail
    have hB1 : Below w.heap.size w w1 := bfin (by go_grown) hb1
    go_ret
    exact ⟨rfl, by go_grown⟩
  · rw [show nameE (a + d) c = ⟨#[45, 86]⟩ by unfold nameE; rw [ht]; rw [if_neg (by omega)]; rfl]
    rw [ht] at HT
    clear ht
    go_enter Try.func57, Try.ntmps57
    go_wp2_with fail
    refine (HT.out _).mono ?_; rintro e w1 ⟨rfl, hb1⟩
    obtain ⟨hc1, hf1⟩ := bcell hb1
    have hz0 : w.heap.size < w1.heap.size := by have := hb1.size; (try simp at this); omega
    go_wp2_with fail
    have hB1 : Below w.heap.size w w1 := bfin (by go_grown) hb1
    go_ret
    exact ⟨rfl, by go_grown⟩
set_option maxRecDepth 100000 in
set_option maxHeartbeats 4000000 in
theorem l04Name_any (a b c d : Int) (w : World) (h : IsMat a b c d) (hk : kindOf a b c d = 1) :
    Calls Try.prog 55 #[(.agg #[.int .i64 a, .int .i64 b, .int .i64 c, .int .i64 d])] w fun e w' => e = .returned (.string (nameE (a + d) c)) ∧ Below w.heap.size w w' := by
  have HT := Lib.hid (fun W => l01Trace_any a b c d W h)
  obtain ⟨ht, hc⟩ := kind_one_c h.det hk
  have ⟨a0, a1, b0, b1, c0, c1, d0, d1, _⟩ := h
  clear hk h
  rcases ht with ht | ht | ht <;> rcases hc with hc | hc
  · rw [show nameE (a + d) c = ⟨#[86]⟩ by unfold nameE; rw [ht]; rw [if_pos hc]; rfl]
    rw [ht] at HT
    clear ht
    go_enter Try.func55, Try.ntmps55
    go_wp2_with fail
    refine (HT.out _).mono ?_; rintro e w1 ⟨rfl, hb1⟩
    obtain ⟨hc1, hf1⟩ := bcell hb1
    have hz0 : w.heap.size < w1.heap.size := by have := hb1.size; (try simp at this); omega
    go_wp2_with fail
    have hB1 : Below w.heap.size w w1 := bfin (by go_grown) hb1
    go_ret
    exact ⟨rfl, by go_grown⟩
  · rw [show nameE (a + d) c = ⟨#[45, 85]⟩ by unfold nameE; rw [ht]; rw [if_neg (by omega)]; rfl]
    rw [ht] at HT
    clear ht
    go_enter Try.func55, Try.ntmps55
    go_wp2_with fail
    refine (HT.out _).mono ?_; rintro e w1 ⟨rfl, hb1⟩
    obtain ⟨hc1, hf1⟩ := bcell hb1
    have hz0 : w.heap.size < w1.heap.size := by have := hb1.size; (try simp at this); omega
    go_wp2_with fail
    have hB1 : Below w.heap.size w w1 := bfin (by go_grown) hb1
    go_ret
    exact ⟨rfl, by go_grown⟩
  · rw [show nameE (a + d) c = ⟨#[83]⟩ by unfold nameE; rw [ht]; rw [if_pos hc]; rfl]
    rw [ht] at HT
    clear ht
    go_enter Try.func55, Try.ntmps55
    go_wp2_with fail
    refine (HT.out _).mono ?_; rintro e w1 ⟨rfl, hb1⟩
    obtain ⟨hc1, hf1⟩ := bcell hb1
    have hz0 : w.heap.size < w1.heap.size := by have := hb1.size; (try simp at this); omega
    go_wp2_with fail
    have hB1 : Below w.heap.size w w1 := bfin (by go_grown) hb1
    go_ret
    exact ⟨rfl, by go_grown⟩
  · rw [show nameE (a + d) c = ⟨#[45, 83]⟩ by unfold nameE; rw [ht]; rw [if_neg (by omega)]; rfl]
    rw [ht] at HT
    clear ht
    go_enter Try.func55, Try.ntmps55
    go_wp2_with fail
    refine (HT.out _).mono ?_; rintro e w1 ⟨rfl, hb1⟩
    obtain ⟨hc1, hf1⟩ := bcell hb1
    have hz0 : w.heap.size < w1.heap.size := by have := hb1.size; (try simp at this); omega
    go_wp2_with fail
    have hB1 : Below w.heap.size w w1 := bfin (by go_grown) hb1
    go_ret
    exact ⟨rfl, by go_grown⟩
  · rw [show nameE (a + d) c = ⟨#[85]⟩ by unfold nameE; rw [ht]; rw [if_pos hc]; rfl]
    rw [ht] at HT
    clear ht
    go_enter Try.func55, Try.ntmps55
    go_wp2_with fail
    refine (HT.out _).mono ?_; rintro e w1 ⟨rfl, hb1⟩
    obtain ⟨hc1, hf1⟩ := bcell hb1
    have hz0 : w.heap.size < w1.heap.size := by have := hb1.size; (try simp at this); omega
    go_wp2_with fail
    have hB1 : Below w.heap.size w w1 := bfin (by go_grown) hb1
    go_ret
    exact ⟨rfl, by go_grown⟩
  · rw [show nameE (a + d) c = ⟨#[45, 86]⟩ by unfold nameE; rw [ht]; rw [if_neg (by omega)]; rfl]
    rw [ht] at HT
    clear ht
    go_enter Try.func55, Try.ntmps55
    go_wp2_with fail
    refine (HT.out _).mono ?_; rintro e w1 ⟨rfl, hb1⟩
    obtain ⟨hc1, hf1⟩ := bcell hb1
    have hz0 : w.heap.size < w1.heap.size := by have := hb1.size; (try simp at this); omega
    go_wp2_with fail
    have hB1 : Below w.heap.size w w1 := bfin (by go_grown) hb1
    go_ret
    exact ⟨rfl, by go_grown⟩
def ellRes (a b c d : Int) : ByteArray × Int := if kcode a b c d 1 = 0 then (nameE (a + d) c, 0) else (⟨#[]⟩, kcode a b c d 1)
theorem EllipticName_any (a b c d : Int) (w : World) :
    Calls Try.prog 25 #[(.agg #[.int .i64 a, .int .i64 b, .int .i64 c, .int .i64 d])] w fun e w' => e = .returned (.tuple #[.string (ellRes a b c d).1, (.int .i64 ((ellRes a b c d).2))]) ∧ Below w.heap.size w w' := by
  have HK := Lib.hid (fun W => kindCode_any a b c d 1 W)
  by_cases hk : kcode a b c d 1 = 0
  · rw [show ellRes a b c d = (nameE (a + d) c, 0) by simp [ellRes, hk]]
    obtain ⟨h1, h2⟩ := kcode_zero hk
    have HS := Lib.hid (fun W => ellipticName_any a b c d W h1 h2)
    rw [hk] at HK
    clear hk h1 h2
    generalize nameE (a + d) c = V at *
    go_enter Try.func25, Try.ntmps25
    go_wp2_with fail
    refine (HK.out _).mono ?_; rintro e w1 ⟨rfl, hb1⟩
    obtain ⟨hc1, hf1⟩ := bcell hb1
    have hz0 : w.heap.size < w1.heap.size := by have := hb1.size; (try simp at this); omega
    go_wp2_with fail
    refine (HS.out _).mono ?_; rintro e w2 ⟨rfl, hb2⟩
    replace hb2 := bstep hb1 hb2
    clear hc1 hf1 hb1
    obtain ⟨hc2, hf2⟩ := bcell hb2
    have hB2 : Below w.heap.size w w2 := bfin (by go_grown) hb2
    go_wp2_with fail
    go_ret2
    exact ⟨rfl, by go_grown⟩
  · rw [show ellRes a b c d = (⟨#[]⟩, kcode a b c d 1) by simp [ellRes, hk]]
    have hn : (kcode a b c d 1 != 0) = true := by simpa using hk
    clear hk
    generalize kcode a b c d 1 = K at *
    go_enter Try.func25, Try.ntmps25
    go_wp2_with fail
    refine (HK.out _).mono ?_; rintro e w1 ⟨rfl, hb1⟩
    obtain ⟨hc1, hf1⟩ := bcell hb1
    have hB1 : Below w.heap.size w w1 := bfin (by go_grown) hb1
    go_wp2_with fail
    go_ret2
    exact ⟨rfl, by go_grown⟩
theorem sEllipticName_any (a b c d : Int) (w : World) :
    Calls Try.prog 23 #[(.agg #[.int .i64 a, .int .i64 b, .int .i64 c, .int .i64 d])] w fun e w' => e = .returned (.tuple #[.string (ellRes a b c d).1, (.int .i64 ((ellRes a b c d).2))]) ∧ Below w.heap.size w w' := by
  have HK := Lib.hid (fun W => l04Kind_any a b c d 1 W)
  by_cases hk : kcode a b c d 1 = 0
  · rw [show ellRes a b c d = (nameE (a + d) c, 0) by simp [ellRes, hk]]
    obtain ⟨h1, h2⟩ := kcode_zero hk
    have HS := Lib.hid (fun W => l04Name_any a b c d W h1 h2)
    rw [hk] at HK
    clear hk h1 h2
    generalize nameE (a + d) c = V at *
    go_enter Try.func23, Try.ntmps23
    go_wp2_with fail
    refine (HK.out _).mono ?_; rintro e w1 ⟨rfl, hb1⟩
    obtain ⟨hc1, hf1⟩ := bcell hb1
    have hz0 : w.heap.size < w1.heap.size := by have := hb1.size; (try simp at this); omega
    go_wp2_with fail
    refine (HS.out _).mono ?_; rintro e w2 ⟨rfl, hb2⟩
    replace hb2 := bstep hb1 hb2
    clear hc1 hf1 hb1
    obtain ⟨hc2, hf2⟩ := bcell hb2
    have hB2 : Below w.heap.size w w2 := bfin (by go_grown) hb2
    go_wp2_with fail
    go_ret2
    exact ⟨rfl, by go_grown⟩
  · rw [show ellRes a b c d = (⟨#[]⟩, kcode a b c d 1) by simp [ellRes, hk]]
    have hn : (kcode a b c d 1 != 0) = true := by simpa using hk
    clear hk
    generalize kcode a b c d 1 = K at *
    go_enter Try.func23, Try.ntmps23
    go_wp2_with fail
    refine (HK.out _).mono ?_; rintro e w1 ⟨rfl, hb1⟩
    obtain ⟨hc1, hf1⟩ := bcell hb1
    have hB1 : Below w.heap.size w w1 := bfin (by go_grown) hb1
    go_wp2_with fail
    go_ret2
    exact ⟨rfl, by go_grown⟩
theorem lawFnExactEllipticName (a b c d : Int) (_ : I64 a) (_ : I64 b) (_ : I64 c) (_ : I64 d) (w : World) :
    Calls Try.prog 5 #[(.agg #[.int .i64 a, .int .i64 b, .int .i64 c, .int .i64 d])] w fun e w' => e = .returned (.bool true) ∧ Below w.heap.size w w' := by
  have HS := Lib.hid (sEllipticName_any a b c d)
  have HI := Lib.hid (EllipticName_any a b c d)
  generalize ellRes a b c d = R at HS HI
  obtain ⟨x, y⟩ := R
  have hn2 : (y != y) = false := by simp
  go_enter Try.func5, Try.ntmps5
  go_wp2_with fail
  refine (toMatrix_any _ _ _ _ _).mono ?_; rintro e w1 ⟨rfl, hb1⟩
  obtain ⟨hc1, hf1⟩ := bcell hb1
  go_wp2_with fail
  refine (HS.out _).mono ?_; rintro e w2 ⟨rfl, hb2⟩
  replace hb2 := bstep hb1 hb2
  clear hc1 hf1 hb1
  obtain ⟨hc2, hf2⟩ := bcell hb2
  go_wp2_with fail
  refine (toMatrix_any _ _ _ _ _).mono ?_; rintro e w3 ⟨rfl, hb3⟩
  replace hb3 := bstep hb2 hb3
  clear hc2 hf2 hb2
  obtain ⟨hc3, hf3⟩ := bcell hb3
  go_wp2_with fail
  refine (HI.out _).mono ?_; rintro e w4 ⟨rfl, hb4⟩
  replace hb4 := bstep hb3 hb4
  clear hc3 hf3 hb3
  obtain ⟨hc4, hf4⟩ := bcell hb4
  have hB4 : Below w.heap.size w w4 := bfin (by go_grown) hb4
  go_wp2_with fail
  go_ret
  exact ⟨rfl, by go_grown⟩
end Go.Proofs.Ytencfmipplgnkaa
