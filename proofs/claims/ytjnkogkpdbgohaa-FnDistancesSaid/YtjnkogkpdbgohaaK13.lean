/- Contracts in letters for the law of distances. -/
import Derived.Test.YtjnkogkpdbgohaaK12D
import Derived.Test.YtjnkogkpdbgohaaK6
import Derived.Test.YtjnkogkpdbgohaaC2
namespace Go.Proofs.Ytjnkogkpdbgohaa
open Go.RowKit
/-- What holds of a fraction's convergents. -/
structure CvUse (P Q : Int) (L : List Int) (C : List P2) : Prop where
  len : C.length = L.length
  pos : 0 < L.length
  last : C[L.length - 1]? = some ⟨P, Q⟩
  near : ∀ i x y, C[i]? = some x → C[i + 1]? = some y → nearRes x.x x.y y.x y.y = (true, 0)
  fc : fcRes L = ((P, Q), 0)
theorem near_of {x y : P2} (h : x.x * y.y - x.y * y.x = 1 ∨ x.x * y.y - x.y * y.x = -1) (hx : E9 x.x ∧ E9 x.y) (hy : E9 y.x ∧ E9 y.y) (px : 0 < x.y) (py : 0 < y.y) : nearRes x.x x.y y.x y.y = (true, 0) := by
  have g1 := gcd_of_det (p := x.x) (q := x.y) (r := y.x) (s := y.y) h
  have g2 := gcd_of_det (p := y.x) (q := y.y) (r := x.x) (s := x.y) (by
    have : y.x * x.y - y.y * x.x = -(x.x * y.y - x.y * y.x) := by grind
    rw [this]; omega)
  have f1 : isFrac x.x x.y = true := isFrac_iff.2 ⟨⟨hx.1.lo, hx.1.hi⟩, ⟨by omega, hx.2.hi⟩, by exact_mod_cast g1, .inl px⟩
  have f2 : isFrac y.x y.y = true := isFrac_iff.2 ⟨⟨hy.1.lo, hy.1.hi⟩, ⟨by omega, hy.2.hi⟩, by exact_mod_cast g2, .inl py⟩
  unfold nearRes nearB crossV
  rw [f1, f2]
  simp only [Bool.and_self, if_true]
  rw [decide_eq_true h]
theorem cv_use {P Q : Int} (hf : isFrac P Q = true) (hq : Q ≠ 0) : CvUse P Q (cfrac P Q) (convL (cfrac P Q) 1 0 0 1) := by
  obtain ⟨e9, q0, q1, hg, hp⟩ := frac_e9 hf
  have hq0 : 0 < Q := by omega
  have hc := cfrac_cont e9 hq0 q1 hg
  have hb := cvB_ok (convOk_all e9 hq0 q1)
  have hv := cv_cfrac (Q.toNat + 1) P Q q0 (by omega) hg (.inl hq0)
  have hmem := cvB_mem hb
  have hpos := conv_pos (cfrac P Q) 1 0 0 1 (by omega) (by omega) (.inr (by omega)) hc.t (fun h => by omega) (fun _ => by omega)
  have hn1 := hc.n1
  refine ⟨convL_len _ _ _ _ _, hn1, ?_, fun i x y hx hy => ?_, ?_⟩
  · rw [conv_at (M := (cfrac P Q).length - 1) (by omega), hv]
  · have h := conv_near (cfrac P Q) 1 0 0 1 (.inl (by omega)) (i + 1) x y (by simpa using hx) (by simpa using hy)
    have mx := List.mem_of_getElem? hx
    have my := List.mem_of_getElem? hy
    exact near_of h (hmem x mx) (hmem y my) (hpos x mx) (hpos y my)
  · unfold fcRes
    rw [if_pos (contB_iff.2 hc), if_pos hb, hv]
structure CvOk (P Q : Int) (L : List Int) (C : List P2) (k : Int) : Prop where
  vimp : ∀ W : World, Calls Try.prog 6 #[(.agg #[.int .i64 P, .int .i64 Q])] W fun e w' => ∃ v, e = .returned (.tuple #[v, (.int .i64 k)]) ∧ w'.ownsRow W.heap.size 25 2 v C.length (ints (flat2 C)) ∧ Below W.heap.size W w'
  vspec : ∀ W : World, Calls Try.prog 7 #[(.agg #[.int .i64 P, .int .i64 Q])] W fun e w' => ∃ v, e = .returned (.tuple #[v, (.int .i64 k)]) ∧ w'.ownsRow W.heap.size 25 2 v C.length (ints (flat2 C)) ∧ Below W.heap.size W w'
  cimp : ∀ W : World, Calls Try.prog 8 #[(.agg #[.int .i64 P, .int .i64 Q])] W fun e w' => ∃ v, e = .returned (.tuple #[v, (.int .i64 k)]) ∧ w'.ownsRow W.heap.size 2 1 v L.length (ints L) ∧ Below W.heap.size W w'
  cspec : ∀ W : World, Calls Try.prog 9 #[(.agg #[.int .i64 P, .int .i64 Q])] W fun e w' => ∃ v, e = .returned (.tuple #[v, (.int .i64 k)]) ∧ w'.ownsRow W.heap.size 2 1 v L.length (ints L) ∧ Below W.heap.size W w'
  lenL : L.length ≤ 60
  lenC : C.length ≤ 60
  use : k = 0 → CvUse P Q L C
theorem cv_ok (P Q : Int) : ∃ (L : List Int) (C : List P2) (k : Int), CvOk P Q L C k := by
  refine ⟨(cofRes P Q).1, (cvofRes P Q).1, (cofRes P Q).2, ?_⟩
  have he : (cvofRes P Q).2 = (cofRes P Q).2 := by
    unfold cvofRes cofRes
    split
    · split <;> rfl
    · rfl
  refine ⟨fun W => ?_, fun W => ?_, fun W => ContinuedOf_any P Q W, fun W => sContinuedOf_any P Q W, cofRes_len P Q, cvofRes_len P Q, fun h0 => ?_⟩
  · rw [← he]; exact ConvergentsOf_any P Q W
  · rw [← he]; exact sConvergentsOf_any P Q W
  · unfold cofRes at h0
    split at h0
    · rename_i hf
      split at h0
      · simp at h0
      · rename_i hq
        have h := cv_use hf hq
        rwa [show (cofRes P Q).1 = cfrac P Q by unfold cofRes; rw [if_pos hf, if_neg hq], show (cvofRes P Q).1 = convL (cfrac P Q) 1 0 0 1 by unfold cvofRes; rw [if_pos hf, if_neg hq]]
    · simp at h0
theorem coRes_frac {a b : Int} (h : isFrac a b = true) : coRes a b = ((a, b), 0) := by
  obtain ⟨⟨a0, a1⟩, ⟨b0, b1⟩, -, h3⟩ := isFrac_iff.1 h
  have e : coSign a b = 1 := by unfold coSign; rw [if_neg (by omega)]
  unfold coRes
  rw [e, Int.one_mul, Int.one_mul, if_pos]
  simp only [entB, inB, Bool.and_eq_true, decide_eq_true_eq]
  omega
theorem coRes_neg {a b : Int} (h : isFrac a b = true) : coRes (-a) (-b) = ((a, b), 0) := by
  obtain ⟨⟨a0, a1⟩, ⟨b0, b1⟩, -, h3⟩ := isFrac_iff.1 h
  have e : coSign (-a) (-b) = -1 := by unfold coSign; rw [if_pos (by omega)]
  unfold coRes
  rw [e, show -1 * -a = a by omega, show -1 * -b = b by omega, if_pos]
  simp only [entB, inB, Bool.and_eq_true, decide_eq_true_eq]
  omega
theorem coRes_small {a b : Int} (ha : -1000000 ≤ a ∧ a ≤ 1000000) (hb : -1000000 ≤ b ∧ b ≤ 1000000) : coRes a b = ((coSign a b * a, coSign a b * b), 0) := by
  unfold coRes
  rw [if_pos]
  unfold coSign
  simp only [entB, inB, Bool.and_eq_true, decide_eq_true_eq]
  split <;> omega
theorem dist_same {u v : V2} {c N N' : Int} (h1 : c ≠ 0 → N = 0) (h2 : c = 0 → ∃ n : Nat, N = (n : Int) ∧ IsD u v n) (h1' : c ≠ 0 → N' = 0) (h2' : c = 0 → ∃ n : Nat, N' = (n : Int) ∧ IsD u v n) : N' = N := by
  by_cases hc : c = 0
  · obtain ⟨n, rfl, hn⟩ := h2 hc
    obtain ⟨m, rfl, hm⟩ := h2' hc
    rw [hm.uniq hn]
  · rw [h1 hc, h1' hc]
theorem distC_frac {a b c d : Int} (h : distC a b c d = 0) : isFrac a b = true ∧ isFrac c d = true ∧ farB a b c d = true := by
  unfold distC at h
  split at h
  · rename_i hf
    rw [Bool.and_eq_true] at hf
    split at h
    · rename_i hr; exact ⟨hf.1, hf.2, hr⟩
    · simp at h
  · simp at h
theorem same_frac {a b c d : Int} (h : isFrac a b = true) (h' : isFrac c d = true) (hs : Same ⟨a, b⟩ ⟨c, d⟩) : a = c ∧ b = d := by
  obtain ⟨-, ⟨b0, b1⟩, -, h3⟩ := isFrac_iff.1 h
  obtain ⟨-, ⟨d0, d1⟩, -, h3'⟩ := isFrac_iff.1 h'
  unfold Same vneg at hs
  simp only [V2.mk.injEq] at hs
  omega
theorem gcd_m {a b : Int} (h : isFrac a b = true) : (Int.gcd (2 * a + 1 * b) (1 * a + 1 * b) : Int) = 1 := by
  have hg := (isFrac_iff.1 h).2.2.1
  have := lead_gcd (a := 1) (b := -1) (c := a) (d := b) (r := -1) (s := 2) (by omega) (by exact_mod_cast hg)
  rw [show 2 * a - -1 * b = 2 * a + 1 * b by omega, show 1 * b - -1 * a = 1 * a + 1 * b by omega] at this
  exact_mod_cast this
/-- What the distance n of two fractions tells. -/
structure DisUse (a b c d : Int) (N : Int) : Prop where
  back : distC c d a b = 0
  backN : ∀ N', (distC c d a b = 0 → ∃ n : Nat, N' = (n : Int) ∧ IsD ⟨c, d⟩ ⟨a, b⟩ n) → N' = N
  near : nearRes a b c d = (N == 1, 0)
  zero : (N == 0) = (a == c && b == d)
  l1 : coRes (2 * a + 1 * b) (1 * a + 1 * b) = ((coSign (2 * a + 1 * b) (1 * a + 1 * b) * (2 * a + 1 * b), coSign (2 * a + 1 * b) (1 * a + 1 * b) * (1 * a + 1 * b)), 0)
  g1 : (Int.gcd (2 * a + 1 * b) (1 * a + 1 * b) : Int) = 1
  g2 : (Int.gcd (2 * c + 1 * d) (1 * c + 1 * d) : Int) = 1
  f1 : isFrac a b = true
  f2 : isFrac c d = true
  l2 : coRes (2 * c + 1 * d) (1 * c + 1 * d) = ((coSign (2 * c + 1 * d) (1 * c + 1 * d) * (2 * c + 1 * d), coSign (2 * c + 1 * d) (1 * c + 1 * d) * (1 * c + 1 * d)), 0)
  moved : ∀ N' : Int, (∃ n : Nat, N' = (n : Int) ∧ IsD ⟨coSign (2 * a + 1 * b) (1 * a + 1 * b) * (2 * a + 1 * b), coSign (2 * a + 1 * b) (1 * a + 1 * b) * (1 * a + 1 * b)⟩ ⟨coSign (2 * c + 1 * d) (1 * c + 1 * d) * (2 * c + 1 * d), coSign (2 * c + 1 * d) (1 * c + 1 * d) * (1 * c + 1 * d)⟩ n) → N' = N
theorem dis_use {a b c d N : Int} (h0 : distC a b c d = 0) (hN : ∃ n : Nat, N = (n : Int) ∧ IsD ⟨a, b⟩ ⟨c, d⟩ n) : DisUse a b c d N := by
  obtain ⟨n, rfl, hn⟩ := hN
  obtain ⟨f1, f2, hr⟩ := distC_frac h0
  have hr2 := hr
  simp only [farB, decide_eq_true_eq] at hr2
  obtain ⟨-, ⟨b0, -⟩, -, -⟩ := isFrac_iff.1 f1
  obtain ⟨-, ⟨d0, -⟩, -, -⟩ := isFrac_iff.1 f2
  have hb : distC c d a b = 0 := by
    have : farB c d a b = true := by simp only [farB, decide_eq_true_eq]; omega
    unfold distC
    rw [f1, f2, this]; simp
  have hadj : nearB a b c d = ((n : Int) == 1) := by
    unfold nearB
    rw [Bool.eq_iff_iff, decide_eq_true_eq, beq_iff_eq]
    constructor
    · intro h
      have hw : Wk 1 ⟨a, b⟩ ⟨c, d⟩ := ⟨⟨a, b⟩, Same.refl _, h⟩
      have := hn.le 1 hw
      have h1 : n ≠ 0 := by
        rintro rfl
        obtain ⟨e1, e2⟩ := same_frac f1 f2 hn.wk
        subst e1 e2
        unfold crossV at h
        rw [Int.mul_comm b a] at h
        omega
      omega
    · intro h
      obtain rfl : n = 1 := by omega
      obtain ⟨x, hx, ha⟩ := hn.wk
      have : Adj ⟨a, b⟩ ⟨c, d⟩ := by
        rcases hx with rfl | rfl
        · exact ha
        · have := ha.negl; rwa [vneg_neg] at this
      exact this
  refine ⟨hb, fun N' h => ?_, ?_, ?_, coRes_small (by omega) (by omega), gcd_m f1, gcd_m f2, f1, f2, coRes_small (by omega) (by omega), fun N' h => ?_⟩
  · obtain ⟨m, rfl, hm⟩ := h hb
    rw [hm.symm.uniq hn]
  · unfold nearRes
    rw [f1, f2, hadj]; rfl
  · rw [Bool.eq_iff_iff, Bool.and_eq_true, beq_iff_eq, beq_iff_eq, beq_iff_eq]
    constructor
    · intro h
      obtain rfl : n = 0 := by omega
      exact same_frac f1 f2 hn.wk
    · rintro ⟨rfl, rfl⟩
      have := hn.le 0 (Same.refl _)
      omega
  · obtain ⟨m, rfl, hm⟩ := h
    have h1 := (hm.same (coSign_same _ _)).samel (coSign_same _ _)
    have h2 : IsD (mact 2 1 1 1 ⟨a, b⟩) (mact 2 1 1 1 ⟨c, d⟩) m := h1
    rw [(h2.unact (.inl (by omega))).uniq hn]
/-- What a matrix of neighbours does. -/
structure MnUse (a b c d p q r s : Int) : Prop where
  mat : isMat p q r s = true
  g1 : (Int.gcd (p * 1 + q * 0) (r * 1 + s * 0) : Int) = 1
  g2 : (Int.gcd (p * 0 + q * 1) (r * 0 + s * 1) : Int) = 1
  l1 : coRes (p * 1 + q * 0) (r * 1 + s * 0) = ((a, b), 0)
  l2 : coRes (p * 0 + q * 1) (r * 0 + s * 1) = ((c, d), 0)
theorem mn_use {a b c d : Int} (h : (mnRes a b c d).2 = 0) : MnUse a b c d (mnRes a b c d).1.p (mnRes a b c d).1.q (mnRes a b c d).1.r (mnRes a b c d).1.s := by
  unfold mnRes at *
  split at h
  · rename_i hf
    rw [if_pos hf]
    rw [Bool.and_eq_true] at hf
    obtain ⟨⟨a0, a1⟩, ⟨b0, b1⟩, hg1, -⟩ := isFrac_iff.1 hf.1
    obtain ⟨⟨c0, c1⟩, ⟨d0, d1⟩, hg2, -⟩ := isFrac_iff.1 hf.2
    split at h
    · rename_i hc
      rw [if_pos hc]
      unfold crossV at hc
      refine ⟨?_, by simpa using hg1, by simpa using hg2, ?_, ?_⟩
      · simp only [isMat, entB, inB, Bool.and_eq_true, decide_eq_true_eq, beq_iff_eq]
        rw [Int.mul_comm c b]
        omega
      · simp only [Int.mul_one, Int.mul_zero, Int.add_zero]; exact coRes_frac hf.1
      · simp only [Int.mul_one, Int.mul_zero, Int.zero_add]; exact coRes_frac hf.2
    · rename_i hc
      rw [if_neg hc]
      split at h
      · rename_i hc2
        rw [if_pos hc2]
        unfold crossV at hc2
        refine ⟨?_, by simpa using hg1, by simpa using hg2, ?_, ?_⟩
        · simp only [isMat, entB, inB, Bool.and_eq_true, decide_eq_true_eq, beq_iff_eq]
          rw [Int.mul_neg, Int.neg_mul, Int.mul_comm c b]
          omega
        · simp only [Int.mul_one, Int.mul_zero, Int.add_zero]; exact coRes_frac hf.1
        · simp only [Int.mul_one, Int.mul_zero, Int.zero_add]; exact coRes_neg hf.2
      · simp at h
  · simp at h
/-- Numbers that make a fraction are its continued fraction. -/
theorem fc_use {L : List Int} (h : (fcRes L).2 = 0) : cofRes (fcRes L).1.1 (fcRes L).1.2 = (L, 0) := by
  unfold fcRes at *
  split at h
  · rename_i hc
    split at h
    · rename_i hb
      rw [if_pos hc, if_pos hb]
      have hC := contB_iff.1 hc
      cases L with
      | nil => exact absurd hC.n1 (by simp)
      | cons n l =>
        obtain ⟨e1, e2, e3⟩ := cv_list (n := n) hC.tl
        obtain ⟨⟨m0, m1⟩, ⟨m2, m3⟩⟩ : E9 (cv (n :: l)).p ∧ E9 (cv (n :: l)).q := cvB_mem hb _ (List.mem_of_getElem? (conv_at (L := n :: l) (M := l.length) (by simp)))
        unfold cofRes
        rw [if_pos (isFrac_iff.2 ⟨⟨m0, m1⟩, ⟨by omega, m3⟩, by exact_mod_cast e3, .inl e2⟩), if_neg (show ¬ (cv (n :: l)).q = 0 by omega), e1]
    · simp at h
  · simp at h
end Go.Proofs.Ytjnkogkpdbgohaa
