/- Contracts: the gap of a product; the law. -/
import Derived.Test.YtkhlgphmimddhaaC38
namespace Go.Proofs.Ytkhlgphmimddhaa
open Go.RowKit
def smallC (m : M4) : Bool := decide ((m.r.natAbs : Int) ≤ 20000)
def isMatM (m : M4) : Bool := isMat m.p m.q m.r m.s
def firstM (m : M4) : Int := firstV m.p m.q m.r m.s
def gapRes (m n : M4) : Int × Int := if (isMatM m && isMatM n) = true then (if (entQ (mulM m n) && (smallC (mulM m n) && (smallC m && smallC n))) = true then (firstM (mulM m n) - firstM m - firstM n, 0) else (0, 3)) else (0, 1)
theorem mulM_mat {m n : M4} (h : IsMat m.p m.q m.r m.s) (h' : IsMat n.p n.q n.r n.s) (he : entQ (mulM m n) = true) : IsMat (mulM m n).p (mulM m n).q (mulM m n).r (mulM m n).s := by
  obtain ⟨⟨a0, a1⟩, ⟨b0, b1⟩, ⟨c0, c1⟩, d0, d1⟩ := entM_iff.1 he
  refine ⟨a0, a1, b0, b1, c0, c1, d0, d1, ?_⟩
  have e1 := h.det
  have e2 := h'.det
  unfold mulM
  simp only
  grind
theorem prodF_2 {m n : M4} (hm : IsMat m.p m.q m.r m.s) : prodF [m, n] ⟨1, 0, 0, 1⟩ = if entQ (mulM m n) = true then some (mulM m n) else none := by
  have e : mulM ⟨1, 0, 0, 1⟩ m = m := by simp [mulM]
  have he : entQ m = true := entM_mat hm
  simp [prodF, e, he]
set_option maxHeartbeats 1000000 in
theorem l01Times_no (m n : M4) (w : World) (h : E24 m.p m.q m.r m.s) (h' : E24 n.p n.q n.r n.s) (he : entQ (mulM m n) = false) :
    Calls Try.prog 84 #[(.agg #[.int .i64 m.p, .int .i64 m.q, .int .i64 m.r, .int .i64 m.s]), (.agg #[.int .i64 n.p, .int .i64 n.q, .int .i64 n.r, .int .i64 n.s])] w fun e w' => e = .returned (.tuple #[(.agg #[.int .i64 0, .int .i64 0, .int .i64 0, .int .i64 0]), .bool false]) ∧ Below w.heap.size w w' := by
  obtain ⟨⟨m10, m11⟩, ⟨m20, m21⟩, ⟨m30, m31⟩, ⟨m40, m41⟩, ⟨m50, m51⟩, ⟨m60, m61⟩, ⟨m70, m71⟩, ⟨m80, m81⟩⟩ := tBd h h'
  unfold entQ entM mulM at he
  simp only at he
  have H0 := Lib.hid (fun W => l01Entry_any (m.p * n.p + m.q * n.r) W)
  have H1 := Lib.hid (fun W => l01Entry_any (m.p * n.q + m.q * n.s) W)
  have H2 := Lib.hid (fun W => l01Entry_any (m.r * n.p + m.s * n.r) W)
  have H3 := Lib.hid (fun W => l01Entry_any (m.r * n.q + m.s * n.s) W)
  cases e0 : entB (m.p * n.p + m.q * n.r)
  · rw [e0] at H0
    go_enter Try.func84, Try.ntmps84
    go_wp2_with fail
    refine (H0.out _).mono ?_; rintro e w' ⟨rfl, rfl⟩
    go_wp2_with fail
    refine bodyPost_ret (v := .tuple #[(.agg #[.int .i64 0, .int .i64 0, .int .i64 0, .int .i64 0]), .bool false]) (by simp [results, Try.results84, go_sem] <;> rfl) rfl ⟨rfl, by go_grown⟩
  cases e1 : entB (m.p * n.q + m.q * n.s)
  · rw [e0] at H0
    rw [e1] at H1
    go_enter Try.func84, Try.ntmps84
    go_wp2_with fail
    refine (H0.out _).mono ?_; rintro e w' ⟨rfl, rfl⟩
    go_wp2_with fail
    refine (H1.out _).mono ?_; rintro e w' ⟨rfl, rfl⟩
    go_wp2_with fail
    refine bodyPost_ret (v := .tuple #[(.agg #[.int .i64 0, .int .i64 0, .int .i64 0, .int .i64 0]), .bool false]) (by simp [results, Try.results84, go_sem] <;> rfl) rfl ⟨rfl, by go_grown⟩
  cases e2 : entB (m.r * n.p + m.s * n.r)
  · rw [e0] at H0
    rw [e1] at H1
    rw [e2] at H2
    go_enter Try.func84, Try.ntmps84
    go_wp2_with fail
    refine (H0.out _).mono ?_; rintro e w' ⟨rfl, rfl⟩
    go_wp2_with fail
    refine (H1.out _).mono ?_; rintro e w' ⟨rfl, rfl⟩
    go_wp2_with fail
    refine (H2.out _).mono ?_; rintro e w' ⟨rfl, rfl⟩
    go_wp2_with fail
    refine bodyPost_ret (v := .tuple #[(.agg #[.int .i64 0, .int .i64 0, .int .i64 0, .int .i64 0]), .bool false]) (by simp [results, Try.results84, go_sem] <;> rfl) rfl ⟨rfl, by go_grown⟩
  · rw [e0, e1, e2] at he
    simp only [Bool.true_and] at he
    rw [e0] at H0
    rw [e1] at H1
    rw [e2] at H2
    rw [he] at H3
    go_enter Try.func84, Try.ntmps84
    go_wp2_with fail
    refine (H0.out _).mono ?_; rintro e w' ⟨rfl, rfl⟩
    go_wp2_with fail
    refine (H1.out _).mono ?_; rintro e w' ⟨rfl, rfl⟩
    go_wp2_with fail
    refine (H2.out _).mono ?_; rintro e w' ⟨rfl, rfl⟩
    go_wp2_with fail
    refine (H3.out _).mono ?_; rintro e w' ⟨rfl, rfl⟩
    go_wp2_with fail
    refine bodyPost_ret (v := .tuple #[(.agg #[.int .i64 0, .int .i64 0, .int .i64 0, .int .i64 0]), .bool false]) (by simp [results, Try.results84, go_sem] <;> rfl) rfl ⟨rfl, by go_grown⟩
theorem l01Times_yes (m n : M4) (w : World) (h : E24 m.p m.q m.r m.s) (h' : E24 n.p n.q n.r n.s) (he : entQ (mulM m n) = true) :
    Calls Try.prog 84 #[(.agg #[.int .i64 m.p, .int .i64 m.q, .int .i64 m.r, .int .i64 m.s]), (.agg #[.int .i64 n.p, .int .i64 n.q, .int .i64 n.r, .int .i64 n.s])] w fun e w' => e = .returned (.tuple #[(.agg #[.int .i64 ((mulM m n).p), .int .i64 ((mulM m n).q), .int .i64 ((mulM m n).r), .int .i64 ((mulM m n).s)]), .bool true]) ∧ Below w.heap.size w w' := by
  simp only [entQ, entM, Bool.and_eq_true] at he
  exact l01Times_ok m.p m.q m.r m.s n.p n.q n.r n.s w h h' he.1 he.2.1 he.2.2.1 he.2.2.2
theorem given_small {m : M4} (h : isMatM m = true) (hs : smallC m = true) : givenF m.p m.q m.r m.s = 0 := by
  unfold givenF; rw [if_pos (show isMat m.p m.q m.r m.s = true from h), if_neg (by simp [smallC] at hs; omega)]
theorem given_big {m : M4} (h : isMatM m = true) (hs : smallC m = false) : givenF m.p m.q m.r m.s = 3 := by
  unfold givenF; rw [if_pos (show isMat m.p m.q m.r m.s = true from h), if_pos (by simp [smallC] at hs; omega)]
theorem firstM_any (m : M4) (w : World) (h : isMatM m = true) (hs : smallC m = true) :
    Calls Try.prog 76 #[(.agg #[.int .i64 m.p, .int .i64 m.q, .int .i64 m.r, .int .i64 m.s])] w fun e w' => e = .returned (.int .i64 (firstM m)) ∧ Below w.heap.size w w' := l07First_any m.p m.q m.r m.s w (isMat_iff.1 h) (by simpa [smallC] using hs)
theorem firstM_bd {m : M4} (h : isMatM m = true) (hs : smallC m = true) : -1000000000000000000 ≤ firstM m ∧ firstM m ≤ 1000000000000000000 := firstV_bd (isMat_iff.1 h) (by simpa [smallC] using hs)
def Ok4 (a b c d : Int) : Prop := isMat a b c d = true ∧ (c.natAbs : Int) ≤ 20000
theorem l07First_ok (a b c d : Int) (w : World) (h : Ok4 a b c d) :
    Calls Try.prog 76 #[(.agg #[.int .i64 a, .int .i64 b, .int .i64 c, .int .i64 d])] w fun e w' => e = .returned (.int .i64 (firstV a b c d)) ∧ Below w.heap.size w w' := l07First_any a b c d w (isMat_iff.1 h.1) h.2
theorem given_ok {a b c d : Int} (h : Ok4 a b c d) : givenF a b c d = 0 := by
  unfold givenF; rw [if_pos h.1, if_neg (by have := h.2; omega)]
theorem l07Given_ok (a b c d : Int) (w : World) (h : Ok4 a b c d) :
    Calls Try.prog 75 #[(.agg #[.int .i64 a, .int .i64 b, .int .i64 c, .int .i64 d])] w fun e w' => e = .returned (.int .i64 0) ∧ Below w.heap.size w w' := by
  have := l07Given_any a b c d w
  rwa [given_ok h] at this
theorem l01Is_ok (a b c d : Int) (w : World) (h : Ok4 a b c d) :
    Calls Try.prog 83 #[(.agg #[.int .i64 a, .int .i64 b, .int .i64 c, .int .i64 d])] w fun e w' => e = .returned (.bool true) ∧ Below w.heap.size w w' := by
  have := l01Is_any a b c d w
  rwa [h.1] at this
theorem ok4_of {m : M4} (h : isMatM m = true) (h2 : smallC m = true) : Ok4 m.p m.q m.r m.s := ⟨h, by simpa [smallC] using h2⟩
theorem ok4_bd {a b c d : Int} (h : Ok4 a b c d) : -1000000000000000000 ≤ firstV a b c d ∧ firstV a b c d ≤ 1000000000000000000 := firstV_bd (isMat_iff.1 h.1) h.2
set_option maxRecDepth 100000 in
set_option maxHeartbeats 2000000 in
theorem sGap_ok (m n P : M4) (w : World) (hM : isMatM m = true) (hN : isMatM n = true) (hP : mulM m n = P) (h1 : smallC m = true) (h2 : smallC n = true) (h3 : smallC P = true) (hE : entQ P = true) :
    Calls Try.prog 39 #[(.agg #[.int .i64 m.p, .int .i64 m.q, .int .i64 m.r, .int .i64 m.s]), (.agg #[.int .i64 n.p, .int .i64 n.q, .int .i64 n.r, .int .i64 n.s])] w fun e w' => e = .returned (.tuple #[(.int .i64 (firstM P - firstM m - firstM n)), (.int .i64 0)]) ∧ Below w.heap.size w w' := by
  have hT := Lib.hid (fun W => l01Times_yes m n W (e24_mat (isMat_iff.1 hM)) (e24_mat (isMat_iff.1 hN)) (by rw [hP]; exact hE))
  have hPm : isMatM P = true := isMat_iff.2 (by have := mulM_mat (isMat_iff.1 hM) (isMat_iff.1 hN) (by rw [hP]; exact hE); rwa [hP] at this)
  have k1 := ok4_of hM h1
  have k2 := ok4_of hN h2
  have k3 := ok4_of hPm h3
  rw [hP] at hT
  unfold firstM
  clear hM hN h1 h2 h3 hPm hE hP
  obtain ⟨a, b, c, d⟩ := m
  obtain ⟨a', b', c', d'⟩ := n
  obtain ⟨p, q, r, s⟩ := P
  simp only at k1 k2 k3 ⊢
  obtain ⟨b10, b11⟩ := ok4_bd k1
  obtain ⟨b20, b21⟩ := ok4_bd k2
  obtain ⟨b30, b31⟩ := ok4_bd k3
  have hd1 : IntKind.i64.wrap (firstV p q r s - firstV a b c d) = firstV p q r s - firstV a b c d := IntWalk.i64_in _ (by omega)
  have hd2 : IntKind.i64.wrap (firstV p q r s - firstV a b c d - firstV a' b' c' d') = firstV p q r s - firstV a b c d - firstV a' b' c' d' := IntWalk.i64_in _ (by omega)
  go_enter Try.func39, Try.ntmps39
  go_wp2_with fail
  refine (l01Is_ok _ _ _ _ _ k1).mono ?_; rintro e w1 ⟨rfl, hb1⟩
  obtain ⟨hc1, hf1⟩ := bcell hb1
  obtain ⟨hz0, hz1⟩ : w.heap.size < w1.heap.size ∧ w.heap.size + 1 < w1.heap.size := by have := hb1.size; (try simp at this); omega
  go_wp2_with fail
  refine (l01Is_ok _ _ _ _ _ k2).mono ?_; rintro e w2 ⟨rfl, hb2⟩
  replace hb2 := bstep hb1 hb2
  clear hc1 hf1 hb1
  obtain ⟨hc2, hf2⟩ := bcell hb2
  obtain ⟨hz0, hz1⟩ : w.heap.size < w2.heap.size ∧ w.heap.size + 1 < w2.heap.size := by have := hb2.size; (try simp at this); omega
  go_wp2_with fail
  refine (hT.out _).mono ?_; rintro e w3 ⟨rfl, hb3⟩
  replace hb3 := bstep hb2 hb3
  clear hc2 hf2 hb2
  obtain ⟨hc3, hf3⟩ := bcell hb3
  obtain ⟨hz0, hz1⟩ : w.heap.size < w3.heap.size ∧ w.heap.size + 1 < w3.heap.size := by have := hb3.size; (try simp at this); omega
  have hB3 : Below w.heap.size w w3 := bfin (by go_grown) hb3
  go_wp2_with fail
  refine (l07Given_ok _ _ _ _ _ k1).mono ?_; rintro e w4 ⟨rfl, hb4⟩
  obtain ⟨hc4, hf4⟩ := bcell hb4
  obtain ⟨hz4_0, hz4_1, hz4_2⟩ : w.heap.size < w4.heap.size ∧ w.heap.size + 1 < w4.heap.size ∧ w3.heap.size < w4.heap.size := by have := hb4.size; (try simp at this); omega
  go_wp2_with fail
  refine (l07Given_ok _ _ _ _ _ k2).mono ?_; rintro e w5 ⟨rfl, hb5⟩
  replace hb5 := bstep hb4 hb5
  clear hc4 hf4 hb4
  obtain ⟨hc5, hf5⟩ := bcell hb5
  obtain ⟨hz5_0, hz5_1, hz5_2⟩ : w.heap.size < w5.heap.size ∧ w.heap.size + 1 < w5.heap.size ∧ w3.heap.size < w5.heap.size := by have := hb5.size; (try simp at this); omega
  go_wp2_with fail
  refine (l07Given_ok _ _ _ _ _ k3).mono ?_; rintro e w6 ⟨rfl, hb6⟩
  replace hb6 := bstep hb5 hb6
  clear hc5 hf5 hb5
  obtain ⟨hc6, hf6⟩ := bcell hb6
  obtain ⟨hz6_0, hz6_1, hz6_2⟩ : w.heap.size < w6.heap.size ∧ w.heap.size + 1 < w6.heap.size ∧ w3.heap.size < w6.heap.size := by have := hb6.size; (try simp at this); omega
  go_wp2_with fail
  refine wp_region_ext (by kernel_rfl) (by kernel_rfl) ?_
  repeat (go_big_quiet_step (((go_at_call 76; refine Calls.ext_of (Nat.le_refl _) (l07First_ok _ _ _ _ _ (by assumption))))))
  refine wpQuiet_nil ?_
  intro w7 hb7
  replace hb7 := bstep hb6 hb7
  clear hc6 hf6 hb6
  obtain ⟨hc7, hf7⟩ := bcell hb7
  have hB7 : Below w.heap.size w w7 := bfin (by go_grown) hb7
  go_wp2_with fail
  have hall := And.intro hc3 (And.intro hc7 (And.intro hz0 (And.intro hz1 (And.intro hz4_0 (And.intro hz4_1 (And.intro hz4_2 (And.intro hz5_0 (And.intro hz5_1 (And.intro hz5_2 (And.intro hz6_0 (And.intro hz6_1 (hz6_2))))))))))))
  refine bodyPost_ret (v := .tuple #[(.int .i64 (firstV p q r s - firstV a b c d - firstV a' b' c' d')), (.int .i64 0)]) (by first | (simp [results, Try.results39, go_sem]; done) | (simp [results, Try.results39, go_sem, hall] <;> rfl)) rfl ⟨rfl, by go_grown⟩
set_option maxRecDepth 100000 in
set_option maxHeartbeats 2000000 in
theorem sProductGap_any (m n : M4) (w : World) :
    Calls Try.prog 39 #[(.agg #[.int .i64 m.p, .int .i64 m.q, .int .i64 m.r, .int .i64 m.s]), (.agg #[.int .i64 n.p, .int .i64 n.q, .int .i64 n.r, .int .i64 n.s])] w fun e w' => e = .returned (.tuple #[(.int .i64 ((gapRes m n).1)), (.int .i64 ((gapRes m n).2))]) ∧ Below w.heap.size w w' := by
  have H1 := Lib.hid (fun W => l01Is_any m.p m.q m.r m.s W)
  have H2 := Lib.hid (fun W => l01Is_any n.p n.q n.r n.s W)
  have G1 := Lib.hid (fun W => l07Given_any m.p m.q m.r m.s W)
  have G2 := Lib.hid (fun W => l07Given_any n.p n.q n.r n.s W)
  cases hM : isMatM m
  · rw [show gapRes m n = (0, 1) by simp [gapRes, hM]]
    rw [show isMat m.p m.q m.r m.s = false from hM] at H1
    obtain ⟨a, b, c, d⟩ := m
    go_enter Try.func39, Try.ntmps39
    go_wp2_with fail
    refine (H1.out _).mono ?_; rintro e w1 ⟨rfl, hb1⟩
    obtain ⟨hc1, hf1⟩ := bcell hb1
    have hB1 : Below w.heap.size w w1 := bfin (by go_grown) hb1
    go_wp2_with fail
    refine bodyPost_ret (v := .tuple #[(.int .i64 0), (.int .i64 1)]) (by first | (simp [results, Try.results39, go_sem]; done) | (simp [results, Try.results39, go_sem, hc1] <;> rfl)) rfl ⟨rfl, by go_grown⟩
  cases hN : isMatM n
  · rw [show gapRes m n = (0, 1) by simp [gapRes, hN]]
    rw [show isMat m.p m.q m.r m.s = true from hM] at H1
    rw [show isMat n.p n.q n.r n.s = false from hN] at H2
    obtain ⟨a, b, c, d⟩ := m
    obtain ⟨a', b', c', d'⟩ := n
    go_enter Try.func39, Try.ntmps39
    go_wp2_with fail
    refine (H1.out _).mono ?_; rintro e w1 ⟨rfl, hb1⟩
    obtain ⟨hc1, hf1⟩ := bcell hb1
    obtain ⟨hz0, hz1⟩ : w.heap.size < w1.heap.size ∧ w.heap.size + 1 < w1.heap.size := by have := hb1.size; (try simp at this); omega
    go_wp2_with fail
    refine (H2.out _).mono ?_; rintro e w2 ⟨rfl, hb2⟩
    replace hb2 := bstep hb1 hb2
    clear hc1 hf1 hb1
    obtain ⟨hc2, hf2⟩ := bcell hb2
    obtain ⟨hz0, hz1⟩ : w.heap.size < w2.heap.size ∧ w.heap.size + 1 < w2.heap.size := by have := hb2.size; (try simp at this); omega
    have hB2 : Below w.heap.size w w2 := bfin (by go_grown) hb2
    go_wp2_with fail
    have hall := And.intro hc2 (And.intro hz0 (hz1))
    refine bodyPost_ret (v := .tuple #[(.int .i64 0), (.int .i64 1)]) (by first | (simp [results, Try.results39, go_sem]; done) | (simp [results, Try.results39, go_sem, hall] <;> rfl)) rfl ⟨rfl, by go_grown⟩
  have im := isMat_iff.1 hM
  have inn := isMat_iff.1 hN
  have TN := Lib.hid (fun W => l01Times_no m n W (e24_mat im) (e24_mat inn))
  have TY := Lib.hid (fun W => l01Times_yes m n W (e24_mat im) (e24_mat inn))
  have HP := Lib.hid (mulM_mat im inn)
  rw [show isMat m.p m.q m.r m.s = true from hM] at H1
  rw [show isMat n.p n.q n.r n.s = true from hN] at H2
  have F1 := Lib.hid (fun W => firstM_any m W hM)
  have F2 := Lib.hid (fun W => firstM_any n W hN)
  have B1 := Lib.hid (@firstM_bd m hM)
  have B2 := Lib.hid (@firstM_bd n hN)
  have S1 := Lib.hid (@given_small m hM)
  have S2 := Lib.hid (@given_small n hN)
  have T1 := Lib.hid (@given_big m hM)
  have T2 := Lib.hid (@given_big n hN)
  have HOK := Lib.hid (fun P hE h1 h2 h3 hk => sGap_ok m n P w hM hN hE h1 h2 h3 hk)
  clear im inn
  have er : gapRes m n = if (entQ (mulM m n) && (smallC (mulM m n) && (smallC m && smallC n))) = true then (firstM (mulM m n) - firstM m - firstM n, 0) else (0, 3) := by simp [gapRes, hM, hN]
  rw [er]
  clear er hM hN
  have hE2 := Lib.hid (show ∃ P, mulM m n = P from ⟨_, rfl⟩)
  obtain ⟨P, hgP⟩ := hE2.out
  rw [hgP] at TN TY HP ⊢
  have hE2 := Lib.hid hgP
  clear hgP
  cases hE : entQ P
  · have HT := Lib.hid (fun W => TN.out W hE)
    simp only [Bool.false_and, Bool.false_eq_true, if_false]
    obtain ⟨a, b, c, d⟩ := m
    obtain ⟨a', b', c', d'⟩ := n
    go_enter Try.func39, Try.ntmps39
    go_wp2_with fail
    refine (H1.out _).mono ?_; rintro e w1 ⟨rfl, hb1⟩
    obtain ⟨hc1, hf1⟩ := bcell hb1
    obtain ⟨hz0, hz1⟩ : w.heap.size < w1.heap.size ∧ w.heap.size + 1 < w1.heap.size := by have := hb1.size; (try simp at this); omega
    go_wp2_with fail
    refine (H2.out _).mono ?_; rintro e w2 ⟨rfl, hb2⟩
    replace hb2 := bstep hb1 hb2
    clear hc1 hf1 hb1
    obtain ⟨hc2, hf2⟩ := bcell hb2
    obtain ⟨hz0, hz1⟩ : w.heap.size < w2.heap.size ∧ w.heap.size + 1 < w2.heap.size := by have := hb2.size; (try simp at this); omega
    go_wp2_with fail
    refine (HT.out _).mono ?_; rintro e w3 ⟨rfl, hb3⟩
    replace hb3 := bstep hb2 hb3
    clear hc2 hf2 hb2
    obtain ⟨hc3, hf3⟩ := bcell hb3
    obtain ⟨hz0, hz1⟩ : w.heap.size < w3.heap.size ∧ w.heap.size + 1 < w3.heap.size := by have := hb3.size; (try simp at this); omega
    have hB3 : Below w.heap.size w w3 := bfin (by go_grown) hb3
    go_wp2_with fail
    have hall := And.intro hc3 (And.intro hz0 (hz1))
    refine bodyPost_ret (v := .tuple #[(.int .i64 0), (.int .i64 3)]) (by first | (simp [results, Try.results39, go_sem]; done) | (simp [results, Try.results39, go_sem, hall] <;> rfl)) rfl ⟨rfl, by go_grown⟩
  have HT := Lib.hid (fun W => TY.out W hE)
  have hEk := Lib.hid hE
  have hP : isMatM P = true := isMat_iff.2 (HP.out hE)
  have G3 := Lib.hid (fun W => l07Given_any P.p P.q P.r P.s W)
  have F3' := Lib.hid (fun W => firstM_any P W hP)
  have B3 := Lib.hid (@firstM_bd P hP)
  have S3 := Lib.hid (@given_small P hP)
  have T3 := Lib.hid (@given_big P hP)
  simp only [Bool.true_and]
  clear hE hP TN TY HP
  cases h1 : smallC m
  · simp only [Bool.and_false, Bool.false_and, Bool.false_eq_true, if_false]
    rw [T1.out h1] at G1
    clear S1 T1 F1 B1 h1
    obtain ⟨a, b, c, d⟩ := m
    obtain ⟨a', b', c', d'⟩ := n
    obtain ⟨p, q, r, s⟩ := P
    go_enter Try.func39, Try.ntmps39
    go_wp2_with fail
    refine (H1.out _).mono ?_; rintro e w1 ⟨rfl, hb1⟩
    obtain ⟨hc1, hf1⟩ := bcell hb1
    obtain ⟨hz0, hz1⟩ : w.heap.size < w1.heap.size ∧ w.heap.size + 1 < w1.heap.size := by have := hb1.size; (try simp at this); omega
    go_wp2_with fail
    refine (H2.out _).mono ?_; rintro e w2 ⟨rfl, hb2⟩
    replace hb2 := bstep hb1 hb2
    clear hc1 hf1 hb1
    obtain ⟨hc2, hf2⟩ := bcell hb2
    obtain ⟨hz0, hz1⟩ : w.heap.size < w2.heap.size ∧ w.heap.size + 1 < w2.heap.size := by have := hb2.size; (try simp at this); omega
    go_wp2_with fail
    refine (HT.out _).mono ?_; rintro e w3 ⟨rfl, hb3⟩
    replace hb3 := bstep hb2 hb3
    clear hc2 hf2 hb2
    obtain ⟨hc3, hf3⟩ := bcell hb3
    obtain ⟨hz0, hz1⟩ : w.heap.size < w3.heap.size ∧ w.heap.size + 1 < w3.heap.size := by have := hb3.size; (try simp at this); omega
    have hB3 : Below w.heap.size w w3 := bfin (by go_grown) hb3
    go_wp2_with fail
    refine (G1.out _).mono ?_; rintro e w4 ⟨rfl, hb4⟩
    obtain ⟨hc4, hf4⟩ := bcell hb4
    have hB4 : Below w.heap.size w w4 := bfin (by go_grown) hb4
    go_wp2_with fail
    have hall := And.intro hc3 (And.intro hc4 (And.intro hz0 (hz1)))
    refine bodyPost_ret (v := .tuple #[(.int .i64 0), (.int .i64 3)]) (by first | (simp [results, Try.results39, go_sem]; done) | (simp [results, Try.results39, go_sem, hall] <;> rfl)) rfl ⟨rfl, by go_grown⟩
  rw [S1.out h1] at G1
  cases h2 : smallC n
  · simp only [Bool.and_false, Bool.false_eq_true, if_false]
    rw [T2.out h2] at G2
    clear S1 T1 F1 B1 h1 S2 T2 F2 B2 h2
    obtain ⟨a, b, c, d⟩ := m
    obtain ⟨a', b', c', d'⟩ := n
    obtain ⟨p, q, r, s⟩ := P
    go_enter Try.func39, Try.ntmps39
    go_wp2_with fail
    refine (H1.out _).mono ?_; rintro e w1 ⟨rfl, hb1⟩
    obtain ⟨hc1, hf1⟩ := bcell hb1
    obtain ⟨hz0, hz1⟩ : w.heap.size < w1.heap.size ∧ w.heap.size + 1 < w1.heap.size := by have := hb1.size; (try simp at this); omega
    go_wp2_with fail
    refine (H2.out _).mono ?_; rintro e w2 ⟨rfl, hb2⟩
    replace hb2 := bstep hb1 hb2
    clear hc1 hf1 hb1
    obtain ⟨hc2, hf2⟩ := bcell hb2
    obtain ⟨hz0, hz1⟩ : w.heap.size < w2.heap.size ∧ w.heap.size + 1 < w2.heap.size := by have := hb2.size; (try simp at this); omega
    go_wp2_with fail
    refine (HT.out _).mono ?_; rintro e w3 ⟨rfl, hb3⟩
    replace hb3 := bstep hb2 hb3
    clear hc2 hf2 hb2
    obtain ⟨hc3, hf3⟩ := bcell hb3
    obtain ⟨hz0, hz1⟩ : w.heap.size < w3.heap.size ∧ w.heap.size + 1 < w3.heap.size := by have := hb3.size; (try simp at this); omega
    have hB3 : Below w.heap.size w w3 := bfin (by go_grown) hb3
    go_wp2_with fail
    refine (G1.out _).mono ?_; rintro e w4 ⟨rfl, hb4⟩
    obtain ⟨hc4, hf4⟩ := bcell hb4
    obtain ⟨hz4_0, hz4_1⟩ : w.heap.size < w4.heap.size ∧ w.heap.size + 1 < w4.heap.size := by have := hb4.size; (try simp at this); omega
    go_wp2_with fail
    refine (G2.out _).mono ?_; rintro e w5 ⟨rfl, hb5⟩
    replace hb5 := bstep hb4 hb5
    clear hc4 hf4 hb4
    obtain ⟨hc5, hf5⟩ := bcell hb5
    have hB5 : Below w.heap.size w w5 := bfin (by go_grown) hb5
    go_wp2_with fail
    have hall := And.intro hc3 (And.intro hc5 (And.intro hz0 (And.intro hz1 (And.intro hz4_0 (hz4_1)))))
    refine bodyPost_ret (v := .tuple #[(.int .i64 0), (.int .i64 3)]) (by first | (simp [results, Try.results39, go_sem]; done) | (simp [results, Try.results39, go_sem, hall] <;> rfl)) rfl ⟨rfl, by go_grown⟩
  rw [S2.out h2] at G2
  cases h3 : smallC P
  · simp only [Bool.false_and, Bool.false_eq_true, if_false]
    rw [T3.out h3] at G3
    clear S1 T1 F1 B1 h1 S2 T2 F2 B2 h2 S3 T3 F3' B3 h3
    obtain ⟨a, b, c, d⟩ := m
    obtain ⟨a', b', c', d'⟩ := n
    obtain ⟨p, q, r, s⟩ := P
    go_enter Try.func39, Try.ntmps39
    go_wp2_with fail
    refine (H1.out _).mono ?_; rintro e w1 ⟨rfl, hb1⟩
    obtain ⟨hc1, hf1⟩ := bcell hb1
    obtain ⟨hz0, hz1⟩ : w.heap.size < w1.heap.size ∧ w.heap.size + 1 < w1.heap.size := by have := hb1.size; (try simp at this); omega
    go_wp2_with fail
    refine (H2.out _).mono ?_; rintro e w2 ⟨rfl, hb2⟩
    replace hb2 := bstep hb1 hb2
    clear hc1 hf1 hb1
    obtain ⟨hc2, hf2⟩ := bcell hb2
    obtain ⟨hz0, hz1⟩ : w.heap.size < w2.heap.size ∧ w.heap.size + 1 < w2.heap.size := by have := hb2.size; (try simp at this); omega
    go_wp2_with fail
    refine (HT.out _).mono ?_; rintro e w3 ⟨rfl, hb3⟩
    replace hb3 := bstep hb2 hb3
    clear hc2 hf2 hb2
    obtain ⟨hc3, hf3⟩ := bcell hb3
    obtain ⟨hz0, hz1⟩ : w.heap.size < w3.heap.size ∧ w.heap.size + 1 < w3.heap.size := by have := hb3.size; (try simp at this); omega
    have hB3 : Below w.heap.size w w3 := bfin (by go_grown) hb3
    go_wp2_with fail
    refine (G1.out _).mono ?_; rintro e w4 ⟨rfl, hb4⟩
    obtain ⟨hc4, hf4⟩ := bcell hb4
    obtain ⟨hz4_0, hz4_1, hz4_2⟩ : w.heap.size < w4.heap.size ∧ w.heap.size + 1 < w4.heap.size ∧ w3.heap.size < w4.heap.size := by have := hb4.size; (try simp at this); omega
    go_wp2_with fail
    refine (G2.out _).mono ?_; rintro e w5 ⟨rfl, hb5⟩
    replace hb5 := bstep hb4 hb5
    clear hc4 hf4 hb4
    obtain ⟨hc5, hf5⟩ := bcell hb5
    obtain ⟨hz5_0, hz5_1, hz5_2⟩ : w.heap.size < w5.heap.size ∧ w.heap.size + 1 < w5.heap.size ∧ w3.heap.size < w5.heap.size := by have := hb5.size; (try simp at this); omega
    go_wp2_with fail
    refine (G3.out _).mono ?_; rintro e w6 ⟨rfl, hb6⟩
    replace hb6 := bstep hb5 hb6
    clear hc5 hf5 hb5
    obtain ⟨hc6, hf6⟩ := bcell hb6
    have hB6 : Below w.heap.size w w6 := bfin (by go_grown) hb6
    go_wp2_with fail
    have hall := And.intro hc3 (And.intro hc6 (And.intro hz0 (And.intro hz1 (And.intro hz4_0 (And.intro hz4_1 (And.intro hz4_2 (And.intro hz5_0 (And.intro hz5_1 (hz5_2)))))))))
    refine bodyPost_ret (v := .tuple #[(.int .i64 0), (.int .i64 3)]) (by first | (simp [results, Try.results39, go_sem]; done) | (simp [results, Try.results39, go_sem, hall] <;> rfl)) rfl ⟨rfl, by go_grown⟩
  · simp only [Bool.and_self, if_true]
    exact HOK.out _ hE2.out h1 h2 h3 hEk.out
end Go.Proofs.Ytkhlgphmimddhaa
