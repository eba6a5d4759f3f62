/- Plain: what the law of the cycles of forms tells: class numbers, cycles, kept forms, equivalent forms. -/
import Derived.Test.YtcaiofhdcffogaaG1A
import Derived.Test.YtcaiofhdcffogaaNa
import Derived.Test.YtcaiofhdcffogaaC116
import Derived.Test.YtcaiofhdcffogaaC22
import Derived.Test.YtcaiofhdcffogaaCd
import Derived.Test.YtcaiofhdcffogaaC91
import Derived.Test.YtcaiofhdcffogaaC95
namespace Go.Proofs.Ytcaiofhdcffogaa
theorem fall_use {d : Int} {f : F3} (ht : toldB d = true) (h : f ∈ fall d 101) : isRed f.x f.y f.z = (true, 0) ∧ discOf f.x f.y f.z = (d, 0) := by
  obtain ⟨h1, h2⟩ := fall_mem h
  have hd0 : d ≠ 0 := fun e => by
    subst e
    revert ht
    decide +kernel
  have hB := okF_bd h1
  have hm := most_bd (told_bd ht)
  have hO := okBd (told_bd ht) hB.an (b := f.y) (by have := hB.b0; have := hB.b1; omega)
  have hF : isForm f.x f.y f.z = true := by
    refine isForm_of ⟨?_, ?_, ?_, ?_, ?_, ?_⟩ (fun h0 => hB.an h0.1)
    · have := hB.a0; omega
    · have := hB.a1; omega
    · have := hB.b0; omega
    · have := hB.b1; omega
    · rw [h2]; have := hO.c0; omega
    · rw [h2]; have := hO.c1; omega
  unfold okF at h1
  simp only [Bool.and_eq_true, decide_eq_true_eq] at h1
  obtain ⟨⟨q1, q2⟩, q3, q4, q5⟩ := h1
  have hdi := (disc_iff q1).2 q3
  rw [← h2] at hdi q5
  refine ⟨?_, ?_⟩
  · unfold isRed
    rw [if_pos hF, if_pos, q5]
    simp only [toldB, Bool.and_eq_true, Bool.or_eq_true, decide_eq_true_eq] at ht
    rcases ht.2.2 with h0 | h0
    · left; exact defB_iff.2 ⟨by omega, by omega⟩
    · by_cases hd : d < 0
      · left; exact defB_iff.2 ⟨by omega, by omega⟩
      · right
        simp only [indB, Bool.and_eq_true, decide_eq_true_eq]
        rw [hdi]
        exact ⟨by omega, h0⟩
  · rw [discOf_yes hF]
    have e : f.y * f.y - 4 * f.x * f.z = d := hdi
    rw [e]
structure ClassUse (d : Int) : Prop where
  code : (clsRes d).2 = (formsRes d).2
  neg : (formsRes d).2 = 0 → d < 0 → (clsRes d).1 = ((formsRes d).1.length : Int)
  one : (formsRes d).2 = 0 → 1 ≤ (clsRes d).1
  red : (formsRes d).2 = 0 → ∀ f ∈ (formsRes d).1, isRed f.x f.y f.z = (true, 0) ∧ discOf f.x f.y f.z = (d, 0)
theorem cls_one {L : List F3} (h : 1 ≤ L.length) : ∀ i, 1 ≤ i → 1 ≤ (clsN L i).2
  | 0, h0 => by omega
  | 1, _ => by rw [clsN_out (by simp [clsN])]; simp [clsN]
  | i + 2, _ => by
    have := cls_one h (i + 1) (by omega)
    by_cases hm : L.getD (i + 1) ⟨0, 0, 0⟩ ∈ (clsN L (i + 1)).1
    · rw [clsN_in hm]; exact this
    · rw [clsN_out hm]; simp only; omega
theorem class_use (d : Int) : ClassUse d := by
  cases ht : toldB d
  · have e1 : clsRes d = (0, 2) := by simp [clsRes, ht]
    have e2 : formsRes d = ([], 2) := by simp [formsRes, ht]
    exact ⟨by rw [e1, e2], by rw [e2]; simp, by rw [e2]; simp, by rw [e2]; simp⟩
  · have e2 : formsRes d = (fall d 101, 0) := by simp [formsRes, ht]
    have hn := fall_ne ht
    have hu : ∀ f ∈ fall d 101, isRed f.x f.y f.z = (true, 0) ∧ discOf f.x f.y f.z = (d, 0) := fun f hf => fall_use ht hf
    have e1 : clsRes d = if d < 0 then ((((fall d 101).length : Nat) : Int), 0) else ((clsN (fall d 101) (fall d 101).length).2, 0) := by simp [clsRes, ht]
    generalize fall d 101 = L at *
    by_cases hd : d < 0
    · rw [if_pos hd] at e1
      refine ⟨by rw [e1, e2], by rw [e1, e2]; intro _ _; rfl, by rw [e1]; intro _; simp only; omega, ?_⟩
      rw [e2]; intro _; exact hu
    · rw [if_neg hd] at e1
      refine ⟨by rw [e1, e2], fun _ h => absurd h hd, by rw [e1]; intro _; exact cls_one hn _ hn, ?_⟩
      rw [e2]; intro _; exact hu
theorem cycL_getq (f : F3) {N k : Nat} (h : k < N) : (cycL f N)[k]? = some (itN f k) := by
  rw [cycL, List.getElem?_map, List.getElem?_range h]; rfl
theorem IsCyc.use {f : F3} (h : IsCyc f) : isForm f.x f.y f.z = true ∧ indB f.x f.y f.z = true ∧ redB f.x f.y f.z = true ∧ smallB f.x f.y f.z = true ∧ cycB f.x f.y f.z = true := by
  obtain ⟨d0, d1, ns, cy⟩ := h
  have hs := cyc_small d0 d1 ns cy
  have hz := cyc_z d0 ns cy
  have hF := isForm_of hs (fun h0 => hz.x0 h0.1)
  have hI : indB f.x f.y f.z = true := by
    simp only [indB, Bool.and_eq_true, decide_eq_true_eq]
    exact ⟨d0, by simpa [sqB] using ns⟩
  have hR : redB f.x f.y f.z = true := by
    unfold redB
    rw [if_neg (by omega)]
    exact red_of_cyc d0 ns cy
  refine ⟨hF, hI, hR, ?_, ?_⟩
  · rw [← isForm_c hz.x0]; exact hF
  · simp only [cycB, Bool.and_eq_true, decide_eq_true_eq]; exact ⟨d1, hI, hR⟩
theorem cyc_sign {D : Int} {f : F3} (hD : 0 < D) (hn : isqrt D * isqrt D ≠ D) (h : Cyc D f) : f.x * f.z < 0 := by
  obtain ⟨r0, rlo, rhi⟩ := isqrt_root (Int.le_of_lt hD)
  obtain ⟨hd, b0, b1, lo, hi⟩ := h
  have hyy := mul_le_self (show 0 ≤ f.y by omega) b1
  have e1 : disc f.x f.y f.z = f.y * f.y - 4 * (f.x * f.z) := by unfold disc; grind
  omega
theorem sign_flip {x z : Int} (h : x * z < 0) : (0 < z ↔ x < 0) ∧ (z < 0 ↔ 0 < x) := by
  rcases Int.lt_trichotomy x 0 with h1 | h1 | h1
  · rcases Int.lt_trichotomy z 0 with h2 | h2 | h2
    · have := Int.mul_pos_of_neg_of_neg h1 h2; omega
    · subst h2; simp at h
    · omega
  · subst h1; simp at h
  · rcases Int.lt_trichotomy z 0 with h2 | h2 | h2
    · omega
    · subst h2; simp at h
    · have := Int.mul_pos h1 h2; omega
theorem itN_sign {D : Int} {f : F3} (hD : 0 < D) (hn : isqrt D * isqrt D ≠ D) (h : Cyc D f) (k : Nat) :
    (k % 2 = 0 → (0 < (itN f k).x ↔ 0 < f.x)) ∧ (k % 2 = 1 → (0 < (itN f k).x ↔ f.x < 0)) := by
  induction k with
  | zero => exact ⟨fun _ => Iff.rfl, fun h => by simp at h⟩
  | succ k ih =>
    have hc := itN_cyc hD hn h k
    have hs := sign_flip (cyc_sign hD hn hc)
    have hx := (cyc_z hD hn hc).x0
    have hx0 := (cyc_z hD hn h).x0
    have e : (itN f (k + 1)).x = (itN f k).z := rfl
    rw [e]
    refine ⟨fun hk => ?_, fun hk => ?_⟩
    · have := ih.2 (by omega); omega
    · have := ih.1 (by omega); omega
theorem period_even {f : F3} {N : Nat} (h : IsCyc f) (hP : Period f N) : N % 2 = 0 := by
  have hs := itN_sign h.d0 h.ns h.cy N
  rw [hP.eq] at hs
  have hx0 := (cyc_z h.d0 h.ns h.cy).x0
  rcases Nat.mod_two_eq_zero_or_one N with e | e
  · exact e
  · have := hs.2 e; omega
structure CycUse (f : F3) (L : List F3) (N : Nat) (g : F3) : Prop where
  n1 : 1 ≤ N
  n2 : N ≤ 10000
  ev : N % 2 = 0
  len : L.length = N
  first : L[0]? = some f
  last : L[N - 1]? = some g
  next : nextRes g.x g.y g.z = (f, 0)
  equ : equRes f g = (true, 0)
theorem cyc_use {a b c : Int} (h : (cycRes a b c).2 = 0) : ∃ N g, CycUse ⟨a, b, c⟩ (cycRes a b c).1 N g := by
  unfold cycRes at h ⊢
  split at h
  · rename_i hF
    split at h
    · simp at h
    · rename_i hD
      rw [if_pos hF, if_neg hD]
      split at h
      · rename_i hI
        rw [if_pos hI]
        have hC := isCyc_of hD hI.1 hI.2
        obtain ⟨N, hP⟩ := hC.period
        have n1 := hP.n1
        refine ⟨N, itN ⟨a, b, c⟩ (N - 1), n1, hP.n2, period_even hC hP, ?_, ?_, ?_, ?_, ?_⟩
        · rw [cycR_eq hP]; exact cycL_len _ _
        · rw [cycR_eq hP, cycL_getq _ (show 0 < N by omega)]; rfl
        · rw [cycR_eq hP, cycL_getq _ (show N - 1 < N by omega)]
        · have hg := (hC.it (N - 1)).use
          have hf := hC.use
          have e : nextQ (itN ⟨a, b, c⟩ (N - 1)) = ⟨a, b, c⟩ := by
            have : itN ⟨a, b, c⟩ (N - 1 + 1) = ⟨a, b, c⟩ := by rw [show N - 1 + 1 = N by omega]; exact hP.eq
            exact this
          have e2 : nextF (itN ⟨a, b, c⟩ (N - 1)).x (itN ⟨a, b, c⟩ (N - 1)).y (itN ⟨a, b, c⟩ (N - 1)).z = ⟨a, b, c⟩ := e
          unfold nextRes
          rw [if_pos hg.1, if_pos ⟨hg.2.1, hg.2.2.1⟩, e2, if_pos hf.2.2.2.1]
        · have hg := (hC.it (N - 1)).use
          have hf := hC.use
          unfold equRes
          have hdf : ¬ (defB a b c = true) := fun hd => by have := defB_iff.1 hd; have := hC.d0; simp only at this; omega
          rw [if_pos ⟨hf.1, hg.1⟩, if_neg (fun h => hdf h.1), if_pos ⟨hf.2.2.2.2, hg.2.2.2.2⟩, cycR_eq hP]
          congr 1
          rw [decide_eq_true_eq]
          simp only [cycL, List.mem_map, List.mem_range]
          exact ⟨N - 1, by omega, rfl⟩
      · simp at h
  · simp at h
theorem keep_use {a b c d : Int} (h : (formOfMat a b c d).2 = 0) :
    (keepsF (formOfMat a b c d).1.x (formOfMat a b c d).1.y (formOfMat a b c d).1.z a b c d) = (true, 0) ∨ (keepsF (formOfMat a b c d).1.x (formOfMat a b c d).1.y (formOfMat a b c d).1.z a b c d).2 = 2 := by
  unfold formOfMat at h ⊢
  split at h
  · rename_i hM
    rw [if_pos hM]
    unfold formOfM at h ⊢
    split at h
    · simp at h
    · rename_i hk
      rw [if_neg hk]
      split at h
      · rename_i hS
        rw [if_pos hS]
        have hk := kind_ne hk
        have hne := formOf_ne (a := a) (d := d) hk
        have hg := formGcd_pos (a := a) (d := d) hk
        obtain ⟨d1, d2, d3⟩ := formGcd_dvd a b c d
        have e1 := Int.mul_tdiv_cancel' d1
        have e2 := Int.mul_tdiv_cancel' d2
        have e3 := Int.mul_tdiv_cancel' (Int.dvd_neg.1 d3)
        have hF := (small_form hne).trans hS
        have hdet := mat_det hM
        simp only
        generalize formGcd a b c d = g at *
        generalize c.tdiv g = x at *
        generalize (d - a).tdiv g = y at *
        generalize b.tdiv g = z at *
        have t1 : formAt x y (-z) a c = x := by
          refine Int.eq_of_mul_eq_mul_left (show g ≠ 0 by omega) ?_
          have : g * formAt x y (-z) a c = (g * x) * a * a + (g * y) * a * c - (g * z) * c * c := by unfold formAt; grind
          rw [this, e1, e2, e3]
          have : c * a * a + (d - a) * a * c - b * c * c = c * (a * d - b * c) := by grind
          rw [this, hdet]; simp
        have t2 : formMid x y (-z) a b c d = y := by
          refine Int.eq_of_mul_eq_mul_left (show g ≠ 0 by omega) ?_
          have : g * formMid x y (-z) a b c d = 2 * (g * x) * a * b + (g * y) * (a * d + b * c) - 2 * (g * z) * c * d := by unfold formMid; grind
          rw [this, e1, e2, e3]
          have : 2 * c * a * b + (d - a) * (a * d + b * c) - 2 * b * c * d = (d - a) * (a * d - b * c) := by grind
          rw [this, hdet]; simp
        have t3 : formAt x y (-z) b d = -z := by
          refine Int.eq_of_mul_eq_mul_left (show g ≠ 0 by omega) ?_
          have : g * formAt x y (-z) b d = (g * x) * b * b + (g * y) * b * d - (g * z) * d * d := by unfold formAt; grind
          rw [this, e1, e2, e3]
          have h4 : c * b * b + (d - a) * b * d - b * d * d = -(b * (a * d - b * c)) := by grind
          rw [h4, hdet]
          have : g * -z = -(g * z) := by grind
          rw [this, e3]; simp
        unfold keepsF
        cases hSm : smallM a b c d
        · right
          have e : appliedCode x y (-z) a b c d = 2 := by simp [appliedCode, hF, hM, hSm]
          rw [e]; simp
        · left
          have e : appliedCode x y (-z) a b c d = 0 := by simp [appliedCode, hF, hM, hSm]
          rw [e, t1, t2, t3]; simp
      · simp at h
  · simp at h
theorem equ_use {f g : F3} (h : (equRes f g).1 = true) : ∃ D, discOf f.x f.y f.z = (D, 0) ∧ discOf g.x g.y g.z = (D, 0) := by
  unfold equRes at h
  split at h
  · rename_i hF
    rw [discOf_yes hF.1, discOf_yes hF.2]
    refine ⟨_, rfl, ?_⟩
    have key : disc f.x f.y f.z = disc g.x g.y g.z := by
      split at h
      · rename_i hd
        obtain ⟨a1, a2⟩ := defB_iff.1 hd.1
        obtain ⟨b1, b2⟩ := defB_iff.1 hd.2
        have i1 := (inv_reduceOf (small_of hF.1) a1 a2).dd
        have i2 := (inv_reduceOf (small_of hF.2) b1 b2).dd
        simp only [decide_eq_true_eq] at h
        rw [← i1, ← i2, h]
      · split at h
        · rename_i hc
          simp only [decide_eq_true_eq] at h
          have hC := isCyc_cycB hc.1
          obtain ⟨N, hP⟩ := hC.period
          rw [cycR_eq hP] at h
          simp only [cycL, List.mem_map, List.mem_range] at h
          obtain ⟨k, -, rfl⟩ := h
          exact (itN_cyc hC.d0 hC.ns hC.cy k).d.symm
        · simp at h
    unfold disc at key
    rw [key]
  · simp at h
end Go.Proofs.Ytcaiofhdcffogaa
/- What the law of cycles of forms asks of the functions, in letters. -/
namespace Go.Proofs.Ytcaiofhdcffogaa
open Go.RowKit
structure FormsOk (d n k : Int) (L : List F3) : Prop where
  cimp : ∀ W, Calls Try.prog 6 #[(.int .i64 d)] W fun e w' => e = .returned (.tuple #[(.int .i64 n), (.int .i64 k)]) ∧ Below W.heap.size W w'
  cspec : ∀ W, Calls Try.prog 7 #[(.int .i64 d)] W fun e w' => e = .returned (.tuple #[(.int .i64 n), (.int .i64 k)]) ∧ Below W.heap.size W w'
  fimp : ∀ W, Calls Try.prog 8 #[(.int .i64 d)] W fun e w' => ∃ v, e = .returned (.tuple #[v, (.int .i64 k)]) ∧ w'.ownsRow W.heap.size 34 3 v L.length (ints (flatF L)) ∧ Below W.heap.size W w'
  fspec : ∀ W, Calls Try.prog 9 #[(.int .i64 d)] W fun e w' => ∃ v, e = .returned (.tuple #[v, (.int .i64 k)]) ∧ w'.ownsRow W.heap.size 34 3 v L.length (ints (flatF L)) ∧ Below W.heap.size W w'
  len : L.length ≤ 20000
  neg : k = 0 → d < 0 → n = (L.length : Int)
  one : k = 0 → 1 ≤ n
  red : k = 0 → ∀ f ∈ L, ∀ W, Calls Try.prog 11 #[(.agg #[.int .i64 f.x, .int .i64 f.y, .int .i64 f.z])] W fun e w' => e = .returned (.tuple #[.bool true, (.int .i64 0)]) ∧ Below W.heap.size W w'
  disc : k = 0 → ∀ f ∈ L, ∀ W, Calls Try.prog 12 #[(.agg #[.int .i64 f.x, .int .i64 f.y, .int .i64 f.z])] W fun e w' => e = .returned (.tuple #[(.int .i64 d), (.int .i64 0)]) ∧ Below W.heap.size W w'
theorem forms_ok (d : Int) : ∃ n k L, FormsOk d n k L := by
  have U := class_use d
  refine ⟨(clsRes d).1, (formsRes d).2, (formsRes d).1, ?_, ?_, fun W => FormsOf_any d W, fun W => sFormsOf_any d W, formsRes_len d, U.neg, U.one, ?_, ?_⟩
  · intro W; have := ClassNumber_any d W; rw [U.code] at this; exact this
  · intro W; have := sClassNumber_any d W; rw [U.code] at this; exact this
  · intro h f hf W
    have := IsReducedForm_any f.x f.y f.z W
    rw [(U.red h f hf).1] at this
    exact this
  · intro h f hf W
    have := DiscriminantOf_any f.x f.y f.z W
    rw [(U.red h f hf).2] at this
    exact this
structure CycleOk (a b c k x y z m : Int) (L : List F3) : Prop where
  cimp : ∀ W, Calls Try.prog 14 #[(.agg #[.int .i64 a, .int .i64 b, .int .i64 c])] W fun e w' => ∃ v, e = .returned (.tuple #[v, (.int .i64 k)]) ∧ w'.ownsRow W.heap.size 34 3 v L.length (ints (flatF L)) ∧ Below W.heap.size W w'
  cspec : ∀ W, Calls Try.prog 15 #[(.agg #[.int .i64 a, .int .i64 b, .int .i64 c])] W fun e w' => ∃ v, e = .returned (.tuple #[v, (.int .i64 k)]) ∧ w'.ownsRow W.heap.size 34 3 v L.length (ints (flatF L)) ∧ Below W.heap.size W w'
  nimp : ∀ W, Calls Try.prog 16 #[(.agg #[.int .i64 a, .int .i64 b, .int .i64 c])] W fun e w' => e = .returned (.tuple #[(.agg #[.int .i64 x, .int .i64 y, .int .i64 z]), (.int .i64 m)]) ∧ Below W.heap.size W w'
  nspec : ∀ W, Calls Try.prog 17 #[(.agg #[.int .i64 a, .int .i64 b, .int .i64 c])] W fun e w' => e = .returned (.tuple #[(.agg #[.int .i64 x, .int .i64 y, .int .i64 z]), (.int .i64 m)]) ∧ Below W.heap.size W w'
  len : L.length ≤ 10000
  yes : k = 0 → ∃ (M : Nat) (g : F3), L.length = M + 1 ∧ (M + 1) % 2 = 0 ∧ L[0]? = some ⟨a, b, c⟩ ∧ L[M]? = some g ∧
    (∀ W, Calls Try.prog 16 #[(.agg #[.int .i64 g.x, .int .i64 g.y, .int .i64 g.z])] W fun e w' => e = .returned (.tuple #[(.agg #[.int .i64 a, .int .i64 b, .int .i64 c]), (.int .i64 0)]) ∧ Below W.heap.size W w') ∧
    ∀ W, Calls Try.prog 18 #[(.agg #[.int .i64 a, .int .i64 b, .int .i64 c]), (.agg #[.int .i64 g.x, .int .i64 g.y, .int .i64 g.z])] W fun e w' => e = .returned (.tuple #[.bool true, (.int .i64 0)]) ∧ Below W.heap.size W w'
theorem cycle_ok (a b c : Int) : ∃ k x y z m L, CycleOk a b c k x y z m L := by
  refine ⟨(cycRes a b c).2, _, _, _, _, (cycRes a b c).1, fun W => CycleOf_any a b c W, fun W => sCycleOf_any a b c W, fun W => NextForm_any a b c W, fun W => sNextForm_any a b c W, cycRes_len a b c, fun h => ?_⟩
  obtain ⟨N, g, U⟩ := cyc_use h
  have n1 := U.n1
  refine ⟨N - 1, g, by rw [U.len]; omega, by rw [show N - 1 + 1 = N by omega]; exact U.ev, U.first, U.last, fun W => ?_, fun W => ?_⟩
  · have := NextForm_any g.x g.y g.z W
    rw [U.next] at this
    exact this
  · have := AreEquivalent_any ⟨a, b, c⟩ g W
    rw [U.equ] at this
    exact this
structure KeepOk (a b c d x y z k : Int) : Prop where
  impl : ∀ W, Calls Try.prog 20 #[(.agg #[.int .i64 a, .int .i64 b, .int .i64 c, .int .i64 d])] W fun e w' => e = .returned (.tuple #[(.agg #[.int .i64 x, .int .i64 y, .int .i64 z]), (.int .i64 k)]) ∧ Below W.heap.size W w'
  spec : ∀ W, Calls Try.prog 21 #[(.agg #[.int .i64 a, .int .i64 b, .int .i64 c, .int .i64 d])] W fun e w' => e = .returned (.tuple #[(.agg #[.int .i64 x, .int .i64 y, .int .i64 z]), (.int .i64 k)]) ∧ Below W.heap.size W w'
  yes : k = 0 → ∃ B m, (B = true ∧ m = 0 ∨ m = 2) ∧ ∀ W, Calls Try.prog 22 #[(.agg #[.int .i64 x, .int .i64 y, .int .i64 z]), (.agg #[.int .i64 a, .int .i64 b, .int .i64 c, .int .i64 d])] W fun e w' => e = .returned (.tuple #[.bool B, (.int .i64 m)]) ∧ Below W.heap.size W w'
theorem keep_ok (a b c d : Int) : ∃ x y z k, KeepOk a b c d x y z k := by
  refine ⟨_, _, _, _, fun W => FormOfMatrix_any a b c d W, fun W => sFormOfMatrix_any a b c d W, fun h => ?_⟩
  refine ⟨_, _, ?_, fun W => KeepsForm_any _ _ _ a b c d W⟩
  rcases keep_use h with h | h
  · left; rw [h]; exact ⟨rfl, rfl⟩
  · right; exact h
structure EquOk (a b c x y z k : Int) (B : Bool) : Prop where
  impl : ∀ W, Calls Try.prog 18 #[(.agg #[.int .i64 a, .int .i64 b, .int .i64 c]), (.agg #[.int .i64 x, .int .i64 y, .int .i64 z])] W fun e w' => e = .returned (.tuple #[.bool B, (.int .i64 k)]) ∧ Below W.heap.size W w'
  spec : ∀ W, Calls Try.prog 24 #[(.agg #[.int .i64 a, .int .i64 b, .int .i64 c]), (.agg #[.int .i64 x, .int .i64 y, .int .i64 z])] W fun e w' => e = .returned (.tuple #[.bool B, (.int .i64 k)]) ∧ Below W.heap.size W w'
  yes : B = true → ∃ D, (∀ W, Calls Try.prog 12 #[(.agg #[.int .i64 a, .int .i64 b, .int .i64 c])] W fun e w' => e = .returned (.tuple #[(.int .i64 D), (.int .i64 0)]) ∧ Below W.heap.size W w') ∧ ∀ W, Calls Try.prog 12 #[(.agg #[.int .i64 x, .int .i64 y, .int .i64 z])] W fun e w' => e = .returned (.tuple #[(.int .i64 D), (.int .i64 0)]) ∧ Below W.heap.size W w'
theorem equ_ok (a b c x y z : Int) : ∃ k B, EquOk a b c x y z k B := by
  refine ⟨_, _, fun W => AreEquivalent_any ⟨a, b, c⟩ ⟨x, y, z⟩ W, fun W => sAreEquivalent_any ⟨a, b, c⟩ ⟨x, y, z⟩ W, fun h => ?_⟩
  obtain ⟨D, h1, h2⟩ := equ_use h
  refine ⟨D, fun W => ?_, fun W => ?_⟩
  · have := DiscriminantOf_any a b c W
    rw [h1] at this
    exact this
  · have := DiscriminantOf_any x y z W
    rw [h2] at this
    exact this
end Go.Proofs.Ytcaiofhdcffogaa
