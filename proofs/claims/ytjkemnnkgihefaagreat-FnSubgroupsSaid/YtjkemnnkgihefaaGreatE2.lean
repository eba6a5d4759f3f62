/- Plain: what the law of subgroups tells: inverses of members, coset matrices, rows of cusps. -/
import Derived.Test.YtjkemnnkgihefaaGreatC64
import Derived.Test.YtjkemnnkgihefaaGreatC100
import Derived.Test.YtjkemnnkgihefaaGreatC50
import Derived.Test.YtjkemnnkgihefaaGreatC52
import Derived.Test.YtjkemnnkgihefaaGreatPA
import Derived.Test.YtjkemnnkgihefaaGreatD19
namespace Go.Proofs.YtjkemnnkgihefaaGreat
open Go.RowKit
theorem memB_inv (fam n a b c d : Int) : memB fam n d (-b) (-c) a = memB fam n a b c d := by
  have e : ∀ x : Int, ((-x).tmod n == 0) = (x.tmod n == 0) := fun x => by
    rw [Int.neg_tmod, Bool.eq_iff_iff]
    simp only [beq_iff_eq]
    omega
  unfold memB
  rw [e, e]
  generalize (c.tmod n == 0) = x1
  generalize (fam == 0) = x2
  generalize ((a - 1).tmod n == 0) = x3
  generalize ((d - 1).tmod n == 0) = x4
  generalize (fam == 1) = x5
  generalize (b.tmod n == 0) = x6
  cases x1 <;> cases x2 <;> cases x3 <;> cases x4 <;> cases x5 <;> cases x6 <;> rfl
theorem mat_inv {a b c d : Int} (h : IsMat a b c d) : IsMat d (-b) (-c) a := by
  obtain ⟨a0, a1, b0, b1, c0, c1, d0, d1, e⟩ := h
  exact ⟨by omega, by omega, by omega, by omega, by omega, by omega, by omega, by omega, by rw [← e]; grind⟩
theorem memRes_inv {fam n a b c d : Int} (h : IsMat a b c d) : memRes fam n d (-b) (-c) a = memRes fam n a b c d := by
  unfold memRes
  rw [if_pos (isMat_iff.2 h), if_pos (isMat_iff.2 (mat_inv h)), memB_inv]
theorem mem_open {fam n a b c d : Int} (h : (memRes fam n a b c d).2 = 0) : IsMat a b c d := by
  unfold memRes at h
  split at h
  · exact isMat_iff.1 (by assumption)
  · simp at h
theorem mem_no {fam n a b c d : Int} (h : (memRes fam n a b c d).2 ≠ 0) : (memRes fam n a b c d).1 = false := by
  unfold memRes at h ⊢
  split
  · split
    · rename_i h1 h2
      rw [if_pos h1, if_pos h2] at h
      exact absurd rfl h
    · rfl
  · rfl
/-! ### Rows of cusps -/
theorem countP_step {f : Nat → Int} {d : Nat} : ∀ l : List Nat, l.countP (fun i => decide (0 ≤ f i ∧ f i < ((d + 1 : Nat) : Int))) = l.countP (fun i => decide (0 ≤ f i ∧ f i < (d : Int))) + l.countP (fun i => f i == (d : Int))
  | [] => rfl
  | x :: l => by
    simp only [List.countP_cons]
    rw [countP_step l]
    by_cases h1 : 0 ≤ f x ∧ f x < (d : Int)
    · have h2 : 0 ≤ f x ∧ f x < ((d + 1 : Nat) : Int) := by omega
      have h3 : (f x == (d : Int)) = false := by simp; omega
      simp only [h1, h2, h3, decide_true, and_self, if_true, Bool.false_eq_true, if_false]
      omega
    · by_cases h3 : f x = (d : Int)
      · have h2 : 0 ≤ f x ∧ f x < ((d + 1 : Nat) : Int) := by omega
        have h4 : (f x == (d : Int)) = true := by simpa using h3
        rw [show decide (0 ≤ f x ∧ f x < (d : Int)) = false by simpa using h1, show decide (0 ≤ f x ∧ f x < ((d + 1 : Nat) : Int)) = true by simpa using h2, h4]
        simp <;> omega
      · have h2 : ¬ (0 ≤ f x ∧ f x < ((d + 1 : Nat) : Int)) := by omega
        have h4 : (f x == (d : Int)) = false := by simpa using h3
        rw [show decide (0 ≤ f x ∧ f x < (d : Int)) = false by simpa using h1, show decide (0 ≤ f x ∧ f x < ((d + 1 : Nat) : Int)) = false by simpa using h2, h4]
        simp
theorem rows_count (N : List Int) : ∀ d : Nat, ((rowsC N d).map List.length).sum = (List.range N.length).countP (fun i => decide (0 ≤ N.getD i 0 ∧ N.getD i 0 < (d : Int)))
  | 0 => by
    have : ∀ l : List Nat, l.countP (fun i => decide (0 ≤ N.getD i 0 ∧ N.getD i 0 < ((0 : Nat) : Int))) = 0 := by
      intro l
      rw [List.countP_eq_zero]
      intro x _
      simp <;> omega
    rw [this]; rfl
  | d + 1 => by
    unfold rowsC
    rw [List.map_append, List.sum_append, rows_count N d, countP_step]
    simp [idxs, List.countP_eq_length_filter]
theorem rows_total {N : List Int} {C : Nat} (h : ∀ j, j < N.length → 0 ≤ N.getD j 0 ∧ N.getD j 0 < (C : Int)) : ((rowsC N C).map List.length).sum = N.length := by
  rw [rows_count]
  have e : (List.range N.length).countP (fun i => decide (0 ≤ N.getD i 0 ∧ N.getD i 0 < (C : Int))) = (List.range N.length).length := by
    rw [List.countP_eq_length]
    intro x hx
    have := h x (by simpa using hx)
    simpa using this
  rw [e]; simp
theorem cusps_total {N : Nat} (n0 : 0 < N) (n1 : N ≤ 60) : ((cusL (cosP (N : Int))).map List.length).sum = (lineL (N : Int)).length := by
  obtain ⟨hc, -⟩ := cusN_bd (N := N) n0 n1
  unfold cusL
  have hl := hc.len
  rw [rows_total (C := (cusN (cosP (N : Int)) (cosP (N : Int)).length).2.toNat) (fun j hj => by
    have h1 := hc.met j (by omega) (by omega)
    have h2 := hc.hi j (by omega)
    have h3 := hc.c0
    omega), hl, cosP_len]
/-! ### Coset matrices -/
structure CosOk (N : Nat) (p : P2) (M : M4i) : Prop where
  mat : IsMat M.p M.q M.r M.s
  r : M.r = p.x
  s : (N : Int) ∣ M.s - p.y
theorem cosM_ok {N : Nat} {p : P2} (n0 : 0 < N) (n1 : N ≤ 60) (h : InLine N p) : CosOk N p (cosMI N p) := by
  obtain ⟨x, y⟩ := p
  obtain ⟨hc0, hc1, hd0, hd1, hp, hs⟩ := h
  simp only at hc0 hc1 hd0 hd1 hp hs
  obtain ⟨c, rfl⟩ := Int.eq_ofNat_of_zero_le hc0
  obtain ⟨d, rfl⟩ := Int.eq_ofNat_of_zero_le hd0
  have hg : Nat.gcd (Nat.gcd c d) N = 1 := by
    have := hp
    simp only [isPairB, beq_iff_eq] at this
    exact_mod_cast this
  by_cases hc : c = 0
  · subst hc
    have e : cosMI N ⟨((0 : Nat) : Int), (d : Int)⟩ = ⟨1, 0, 0, 1⟩ := by simp [cosMI, cosM]
    rw [e]
    refine ⟨by show IsMat 1 0 0 1; constructor <;> omega, rfl, ?_⟩
    have hgd : Int.gcd (d : Int) N = 1 := by
      have h1 : Nat.gcd d N = 1 := by simpa using hg
      exact h1
    obtain ⟨v, hv, hvd⟩ := unit_inv n0 n1 hgd
    have hmin := (normal_least (n := (N : Int)) (c := 0) (d := (d : Int)) (by omega) (by omega) (by omega)).min v hv
    rw [show normal (N : Int) 0 (d : Int) = ⟨0, (d : Int)⟩ from hs, hvd] at hmin
    unfold NotLess at hmin
    simp only [Int.mul_zero, Int.zero_emod] at hmin
    simp only
    by_cases hN : N = 1
    · subst hN; exact ⟨1 - d, by omega⟩
    · have h1 : (1 : Int) % N = 1 := Int.emod_eq_of_lt (by omega) (by omega)
      rw [h1] at hmin
      have hd' : ¬ (1 : Int) < d := fun h => lexB_no.1 hmin (.inr ⟨rfl, h⟩)
      have hd : d ≤ 1 := by omega
      have hd2 : d ≠ 0 := by
        rintro rfl
        have : Nat.gcd 0 N = 1 := by simpa using hg
        simp at this; omega
      obtain rfl : d = 1 := by omega
      exact ⟨0, by simp⟩
  · have hcop := cop_of (n := N) (c := c) (d := d) n1 (by omega) (by omega) (by omega) hg
    have ht := hcop.le
    have hmul : firstN (copT N c d) 60 0 * N ≤ 60 * 60 := Nat.mul_le_mul ht n1
    have e : cosMI N ⟨(c : Int), (d : Int)⟩ = ⟨(firstN (invA c ((d + firstN (copT N c d) 60 0 * N) % c)) c 0 : Nat), (((firstN (invA c ((d + firstN (copT N c d) 60 0 * N) % c)) c 0 : Nat) : Int) * ((d + firstN (copT N c d) 60 0 * N : Nat) : Int) - 1).tdiv c, c, ((d + firstN (copT N c d) 60 0 * N : Nat) : Int)⟩ := by
      simp [cosMI, cosM, hc]
    have hit := hcop.hit
    rw [e]
    generalize hD : d + firstN (copT N c d) 60 0 * N = D at *
    have hinv := inv_of (c := c) (d := D) (by omega) (by omega) hit
    have hi := inv_int.2 hinv.hit
    have hlt := hinv.lt
    generalize firstN (invA c (D % c)) c 0 = A at *
    have hAD := mul_bd (a := (A : Int)) (b := (D : Int)) (A := 60) (B := 4000) (by omega) (by omega) (by omega) (by omega)
    have hdvd : (c : Int) ∣ (A : Int) * D - 1 := Int.dvd_of_tmod_eq_zero hi
    have hcan := Int.tdiv_mul_cancel hdvd
    have hq := Int.natAbs_tdiv_le_natAbs ((A : Int) * D - 1) c
    refine ⟨?_, rfl, ?_⟩
    · simp only
      exact ⟨by omega, by omega, by omega, by omega, by omega, by omega, by omega, by omega, by rw [hcan]; omega⟩
    refine ⟨(firstN (copT N c d) 60 0 : Nat), ?_⟩
    show (D : Int) - d = _
    rw [← hD]
    push_cast
    rw [Int.mul_comm]; omega
theorem line_get {N : Nat} {k : Nat} (n0 : 0 < N) (hk : k < (lineL (N : Int)).length) : InLine N (lineL (N : Int))[k] := (lineL_mem (by omega)).1 (List.getElem_mem hk)
/-- The coset of a coset matrix is the one it was made for. -/
theorem coset_back {n i : Int} (h : (cosMRes n i).2 = 0) : cosetRes n (cosMRes n i).1.p (cosMRes n i).1.q (cosMRes n i).1.r (cosMRes n i).1.s = (i, 0) ∧ IsMat (cosMRes n i).1.p (cosMRes n i).1.q (cosMRes n i).1.r (cosMRes n i).1.s := by
  unfold cosMRes at h ⊢
  split at h
  · rename_i hn
    split at h
    · rename_i hi
      rw [if_pos hn, if_pos hi]
      obtain ⟨n0, n1⟩ := inB_iff.1 hn
      obtain ⟨N, rfl⟩ := Int.eq_ofNat_of_zero_le (show 0 ≤ n by omega)
      obtain ⟨k, rfl⟩ := Int.eq_ofNat_of_zero_le hi.1
      have hk : k < (lineL (N : Int)).length := by omega
      simp only [Int.toNat_natCast]
      have e : (lineL (N : Int)).getD k ⟨0, 0⟩ = (lineL (N : Int))[k] := by simp [List.getD, List.getElem?_eq_getElem hk]
      rw [e]
      have ho := cosM_ok (N := N) (by omega) (by omega) (line_get (by omega) hk)
      refine ⟨?_, ho.mat⟩
      unfold cosetRes
      rw [if_pos (isMat_iff.2 ho.mat), if_pos hn, coset_mod (c' := (lineL (N : Int))[k].x) (d' := (lineL (N : Int))[k].y) (by rw [ho.r]; simp) ho.s, coset_self (by omega) hk]
    · simp at h
  · simp at h
/-- A matrix times the inverse of its coset's matrix is a member. -/
theorem coset_member {n a b c d : Int} (h : (cosetRes n a b c d).2 = 0) : IsMat a b c d ∧ (cosMRes n (cosetRes n a b c d).1).2 = 0 ∧
    ∀ P : M4, P = mulM ⟨a, b, c, d⟩ ⟨(cosMRes n (cosetRes n a b c d).1).1.s, -(cosMRes n (cosetRes n a b c d).1).1.q, -(cosMRes n (cosetRes n a b c d).1).1.r, (cosMRes n (cosetRes n a b c d).1).1.p⟩ → IsMat P.p P.q P.r P.s → memRes 0 n P.p P.q P.r P.s = (true, 0) := by
  unfold cosetRes at h ⊢
  split at h
  · rename_i hM
    split at h
    · rename_i hn
      rw [if_pos hM, if_pos hn]
      obtain ⟨n0, n1⟩ := inB_iff.1 hn
      obtain ⟨N, rfl⟩ := Int.eq_ofNat_of_zero_le (show 0 ≤ n by omega)
      have hm := isMat_iff.1 hM
      have hp : isPairB N (c % N) (d % N) = true := pair_det (a := a) (b := b) hm.det
      obtain ⟨k, hk, hkc, hkl⟩ := coset_get (N := N) (by omega) hp
      simp only
      rw [hkc]
      have e : (lineL (N : Int)).getD k ⟨0, 0⟩ = (lineL (N : Int))[k] := by simp [List.getD, List.getElem?_eq_getElem hk]
      have er : cosMRes (N : Int) (k : Int) = (cosMI N (lineL (N : Int))[k], 0) := by
        unfold cosMRes
        rw [if_pos hn, if_pos ⟨by omega, by omega⟩]
        simp only [Int.toNat_natCast]
        rw [e]
      have ho := cosM_ok (N := N) (by omega) (by omega) (line_get (by omega) hk)
      rw [er]
      refine ⟨hm, rfl, ?_⟩
      rintro P rfl hP
      unfold memRes
      rw [if_pos (isMat_iff.2 hP)]
      have hin : (inB 0 0 2 && inB (N : Int) 1 1000000) = true := by
        simp only [Bool.and_eq_true, inB_iff]; omega
      rw [if_pos hin]
      have hdv : (N : Int) ∣ c * (cosMI N (lineL (N : Int))[k]).s + d * -(cosMI N (lineL (N : Int))[k]).r := by
        obtain ⟨t, ht⟩ := ho.s
        have hr := ho.r
        obtain ⟨v, -, hv⟩ := (normal_least (n := (N : Int)) (c := c % N) (d := d % N) (by omega) ⟨Int.emod_nonneg _ (by omega), Int.emod_lt_of_pos _ (by omega)⟩ ⟨Int.emod_nonneg _ (by omega), Int.emod_lt_of_pos _ (by omega)⟩).form
        rw [← hkl] at hv
        have hx : (lineL (N : Int))[k].x = v * (c % N) % N := by rw [hv]
        have hy : (lineL (N : Int))[k].y = v * (d % N) % N := by rw [hv]
        rw [hr]
        have es : (cosMI N (lineL (N : Int))[k]).s = (lineL (N : Int))[k].y + N * t := by omega
        rw [es, hx, hy]
        have e1 := Int.emod_def (v * (c % N)) N
        have e2 := Int.emod_def (v * (d % N)) N
        have e3 := Int.emod_def c N
        have e4 := Int.emod_def d N
        generalize v * (c % N) / N = k1 at *
        generalize v * (d % N) / N = k2 at *
        generalize c / (N : Int) = k3 at *
        generalize d / (N : Int) = k4 at *
        rw [e1, e2, e3, e4]
        exact ⟨c * t - c * v * k4 - c * k2 + d * v * k3 + d * k1, by grind⟩
      have hmem : memB 0 (N : Int) (mulM ⟨a, b, c, d⟩ ⟨(cosMI N (lineL (N : Int))[k]).s, -(cosMI N (lineL (N : Int))[k]).q, -(cosMI N (lineL (N : Int))[k]).r, (cosMI N (lineL (N : Int))[k]).p⟩).p (mulM ⟨a, b, c, d⟩ ⟨(cosMI N (lineL (N : Int))[k]).s, -(cosMI N (lineL (N : Int))[k]).q, -(cosMI N (lineL (N : Int))[k]).r, (cosMI N (lineL (N : Int))[k]).p⟩).q (mulM ⟨a, b, c, d⟩ ⟨(cosMI N (lineL (N : Int))[k]).s, -(cosMI N (lineL (N : Int))[k]).q, -(cosMI N (lineL (N : Int))[k]).r, (cosMI N (lineL (N : Int))[k]).p⟩).r (mulM ⟨a, b, c, d⟩ ⟨(cosMI N (lineL (N : Int))[k]).s, -(cosMI N (lineL (N : Int))[k]).q, -(cosMI N (lineL (N : Int))[k]).r, (cosMI N (lineL (N : Int))[k]).p⟩).s = true := by
        have h0 : (mulM ⟨a, b, c, d⟩ ⟨(cosMI N (lineL (N : Int))[k]).s, -(cosMI N (lineL (N : Int))[k]).q, -(cosMI N (lineL (N : Int))[k]).r, (cosMI N (lineL (N : Int))[k]).p⟩).r.tmod (N : Int) = 0 := Int.tmod_eq_zero_of_dvd hdv
        unfold memB
        rw [h0]
        rfl
      rw [hmem]
    · simp at h
  · simp at h
/-- The line's length is the index. -/
theorem line_idx {b : Int} (h : (lineRes b).c = 0) : (1 ≤ b ∧ b ≤ 60) ∧ idxRes 0 b = (((lineL b).length : Int), 0) ∧ lineRes b = ⟨lineXs (lineL b), (lineL b).length, 0⟩ ∧ cspRes b = ⟨cusL (cosP b), (cusL (cosP b)).length, 0⟩ ∧ ((cusL (cosP b)).map List.length).sum = (lineL b).length := by
  unfold lineRes at h ⊢
  split at h
  · rename_i hn
    obtain ⟨n0, n1⟩ := inB_iff.1 hn
    obtain ⟨N, rfl⟩ := Int.eq_ofNat_of_zero_le (show 0 ≤ b by omega)
    refine ⟨⟨n0, n1⟩, ?_, by rw [if_pos hn], by simp [cspRes, hn], cusps_total (by omega) (by omega)⟩
    unfold idxRes
    rw [if_pos (by simp only [Bool.and_eq_true, inB_iff]; omega)]
    have e : idxV 0 (Int.toNat (N : Int)) = (lineL (N : Int)).length := by
      rw [Int.toNat_natCast, line_index (by omega) (by omega)]; rfl
    rw [e]
  · simp at h
theorem line_use {b : Int} (h : (lineRes b).c = 0) : idxRes 0 b = (((lineRes b).n : Int), 0) ∧ (cspRes b).c = 0 ∧ ((cspRes b).xss.map List.length).sum = (lineRes b).n ∧ (cspRes b).n = (cspRes b).xss.length ∧ (lineRes b).n ≤ 3600 := by
  obtain ⟨⟨-, n1⟩, h1, h2, h3, h4⟩ := line_idx h
  rw [h2, h3]
  exact ⟨h1, rfl, h4, rfl, lineL_len n1⟩
theorem line_small (b : Int) : (lineRes b).n ≤ 3600 := by
  by_cases h : (lineRes b).c = 0
  · exact (line_use h).2.2.2.2
  · unfold lineRes at h ⊢
    split
    · rename_i hn; rw [if_pos hn] at h; exact absurd rfl h
    · simp
theorem coset_val {n a b c d : Int} (h : (cosetRes n a b c d).2 = 0) : I64 (cosetRes n a b c d).1 := by
  unfold cosetRes at h ⊢
  split at h
  · rename_i hM
    split at h
    · rename_i hn
      rw [if_pos hM, if_pos hn]
      have h1 := findI_lo (normal n (c % n) (d % n)) (lineL n) 0 (Int.le_refl _)
      have h2 := lineL_len (n := n) (inB_iff.1 hn).2
      unfold I64 cosetI
      simp only
      omega
    · simp at h
  · simp at h
/-- Lengths of the first rows together. -/
def sumTo (X : List (List Int)) (k : Nat) : Nat := ((X.take k).map List.length).sum
theorem sumTo_next {X : List (List Int)} {k : Nat} (h : k < X.length) : sumTo X (k + 1) = sumTo X k + (X.getD k []).length := by
  unfold sumTo
  rw [List.take_succ_eq_append_getElem h, List.map_append, List.sum_append]
  simp [List.getD, List.getElem?_eq_getElem h]
theorem sumTo_all (X : List (List Int)) : sumTo X X.length = (X.map List.length).sum := by unfold sumTo; rw [List.take_length]
theorem sum_take_le (l : List Nat) (k : Nat) : (l.take k).sum ≤ l.sum := by
  have h := congrArg List.sum (List.take_append_drop k l)
  rw [List.sum_append] at h
  omega
theorem sumTo_le (X : List (List Int)) (k : Nat) : sumTo X k ≤ (X.map List.length).sum := by
  unfold sumTo
  rw [List.map_take]
  exact sum_take_le _ _
end Go.Proofs.YtjkemnnkgihefaaGreat
