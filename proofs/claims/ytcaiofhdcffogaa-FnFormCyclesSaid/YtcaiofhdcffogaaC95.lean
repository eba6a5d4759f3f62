/- Contracts: equivalent forms, the model's own; the law AreEquivalent (written by gen_c95.py). -/
import Derived.Test.YtcaiofhdcffogaaC94
namespace Go.Proofs.Ytcaiofhdcffogaa
open Go.RowKit
attribute [local go_sem] eqForm3
theorem given_yes {f : F3} (h : isForm f.x f.y f.z = true) (h2 : indB f.x f.y f.z = true ∧ redB f.x f.y f.z = true) : givenC f.x f.y f.z = 0 := by
  unfold givenC; rw [if_pos h, if_pos h2]
theorem given_no {f : F3} (h : isForm f.x f.y f.z = true) (h2 : ¬ (indB f.x f.y f.z = true ∧ redB f.x f.y f.z = true)) : givenC f.x f.y f.z = 5 := by
  unfold givenC; rw [if_pos h, if_neg h2]
theorem cycB_no1 {f : F3} (h2 : ¬ (indB f.x f.y f.z = true ∧ redB f.x f.y f.z = true)) : ¬ cycB f.x f.y f.z = true := by
  intro h
  simp only [cycB, Bool.and_eq_true, decide_eq_true_eq] at h
  exact h2 h.2
theorem cycB_no2 {f : F3} (h2 : 2000 < disc f.x f.y f.z) : ¬ cycB f.x f.y f.z = true := by
  intro h
  simp only [cycB, Bool.and_eq_true, decide_eq_true_eq] at h
  omega
theorem cycB_yes {f : F3} (h : indB f.x f.y f.z = true ∧ redB f.x f.y f.z = true) (h2 : ¬ 2000 < disc f.x f.y f.z) : cycB f.x f.y f.z = true := by
  simp only [cycB, Bool.and_eq_true, decide_eq_true_eq]
  exact ⟨by omega, h⟩
theorem memF_step {p : F3} {l : List F3} {k : Nat} (hk : k < l.length) (h : l[k] = p) : memF p l = true := memF_iff.2 (h ▸ List.getElem_mem hk)
theorem memF_end {p : F3} {l : List F3} (hb : ∀ j (hj : j < l.length), j < l.length → l[j] ≠ p) : memF p l = false := by
  rw [Bool.eq_false_iff]
  intro h
  obtain ⟨j, hj, e⟩ := List.getElem_of_mem (memF_iff.1 h)
  exact hb j hj hj e
set_option maxRecDepth 100000 in
set_option maxHeartbeats 20000000 in
theorem sAreEquivalent_any (f g : F3) (w : World) :
    Calls Try.prog 24 #[(.agg #[.int .i64 f.x, .int .i64 f.y, .int .i64 f.z]), (.agg #[.int .i64 g.x, .int .i64 g.y, .int .i64 g.z])] w fun e w' => e = .returned (.tuple #[.bool (equRes f g).1, (.int .i64 ((equRes f g).2))]) ∧ Below w.heap.size w w' := by
  have I1 := Lib.hid (fun W => l05Is_any f.x f.y f.z W)
  have I2 := Lib.hid (fun W => l05Is_any g.x g.y g.z W)
  cases hf : isForm f.x f.y f.z
  · rw [equ_bad (by simp [hf])]
    rw [hf] at I1
    obtain ⟨a, b, c⟩ := f
    obtain ⟨p, q, r⟩ := g
    simp only at *
    go_enter Try.func24, Try.ntmps24
    go_wp2_with fail
    refine (I1.out _).mono ?_; rintro e w1 ⟨rfl, hb1⟩
    obtain ⟨hc1, hf1⟩ := bcell hb1
    have hB1 : Below w.heap.size w w1 := bfin (by go_grown) hb1
    go_wp2_with fail
    go_ret2
    exact ⟨rfl, by go_grown⟩
  cases hg : isForm g.x g.y g.z
  · rw [equ_bad (by simp [hg])]
    rw [hf] at I1
    rw [hg] at I2
    obtain ⟨a, b, c⟩ := f
    obtain ⟨p, q, r⟩ := g
    simp only at *
    go_enter Try.func24, Try.ntmps24
    go_wp2_with fail
    refine (I1.out _).mono ?_; rintro e w1 ⟨rfl, hb1⟩
    obtain ⟨hc1, hf1⟩ := bcell hb1
    obtain ⟨hz0, hz1⟩ : w.heap.size < w1.heap.size ∧ w.heap.size + 1 < w1.heap.size := by have := hb1.size; (try simp at this); omega
    go_wp2_with fail
    refine (I2.out _).mono ?_; rintro e w2 ⟨rfl, hb2⟩
    replace hb2 := bstep hb1 hb2
    clear hc1 hf1 hb1
    obtain ⟨hc2, hf2⟩ := bcell hb2
    have hB2 : Below w.heap.size w w2 := bfin (by go_grown) hb2
    go_wp2_with fail
    go_ret2
    exact ⟨rfl, by go_grown⟩
  have s1 := small_of hf
  have s2 := small_of hg
  have D1 := Lib.hid (fun W => l05Definite_any f.x f.y f.z W s1)
  have D2 := Lib.hid (fun W => l05Definite_any g.x g.y g.z W s2)
  have G1 := Lib.hid (fun W => l05Given_any f.x f.y f.z W)
  have G2 := Lib.hid (fun W => l05Given_any g.x g.y g.z W)
  have K1 := Lib.hid (fun W => l05Disc_any f.x f.y f.z W s1)
  have K2 := Lib.hid (fun W => l05Disc_any g.x g.y g.z W s2)
  rw [show (f.y * f.y - 4 * f.x * f.z : Int) = disc f.x f.y f.z from rfl] at K1
  rw [show (g.y * g.y - 4 * g.x * g.z : Int) = disc g.x g.y g.z from rfl] at K2
  by_cases hd : defB f.x f.y f.z = true ∧ defB g.x g.y g.z = true
  · rw [equ_def hf hg hd.1 hd.2]
    rw [hf] at I1
    rw [hg] at I2
    rw [hd.1] at D1
    rw [hd.2] at D2
    have k1 : disc f.x f.y f.z < 0 ∧ 0 < f.x := by simpa [defB] using hd.1
    have k2 : disc g.x g.y g.z < 0 ∧ 0 < g.x := by simpa [defB] using hd.2
    have R1 := Lib.hid (fun W => l05Down_any f.x f.y f.z W s1 k1.1 k1.2)
    have R2 := Lib.hid (fun W => l05Down_any g.x g.y g.z W s2 k2.1 k2.2)
    have HE := Lib.hid (@eqF (reduceOf f.x f.y f.z).f (reduceOf g.x g.y g.z).f)
    rw [← HE.out]
    clear k1 k2 hd G1 G2 K1 K2 HE s1 s2
    generalize reduceOf f.x f.y f.z = F at *
    generalize reduceOf g.x g.y g.z = G at *
    obtain ⟨⟨x, y, z⟩, ⟨m1, m2, m3, m4⟩⟩ := F
    obtain ⟨⟨x', y', z'⟩, ⟨n1, n2, n3, n4⟩⟩ := G
    obtain ⟨a, b, c⟩ := f
    obtain ⟨p, q, r⟩ := g
    simp only at *
    go_enter Try.func24, Try.ntmps24
    go_wp2_with fail
    refine (I1.out _).mono ?_; rintro e w1 ⟨rfl, hb1⟩
    obtain ⟨hc1, hf1⟩ := bcell hb1
    obtain ⟨hz0, hz1⟩ : w.heap.size < w1.heap.size ∧ w.heap.size + 1 < w1.heap.size := by have := hb1.size; (try simp at this); omega
    go_wp2_with fail
    refine (I2.out _).mono ?_; rintro e w2 ⟨rfl, hb2⟩
    replace hb2 := bstep hb1 hb2
    clear hc1 hf1 hb1
    obtain ⟨hc2, hf2⟩ := bcell hb2
    obtain ⟨hz0, hz1⟩ : w.heap.size < w2.heap.size ∧ w.heap.size + 1 < w2.heap.size := by have := hb2.size; (try simp at this); omega
    go_wp2_with fail
    refine (D1.out _).mono ?_; rintro e w3 ⟨rfl, hb3⟩
    replace hb3 := bstep hb2 hb3
    clear hc2 hf2 hb2
    obtain ⟨hc3, hf3⟩ := bcell hb3
    obtain ⟨hz0, hz1⟩ : w.heap.size < w3.heap.size ∧ w.heap.size + 1 < w3.heap.size := by have := hb3.size; (try simp at this); omega
    go_wp2_with fail
    refine (D2.out _).mono ?_; rintro e w4 ⟨rfl, hb4⟩
    replace hb4 := bstep hb3 hb4
    clear hc3 hf3 hb3
    obtain ⟨hc4, hf4⟩ := bcell hb4
    obtain ⟨hz0, hz1⟩ : w.heap.size < w4.heap.size ∧ w.heap.size + 1 < w4.heap.size := by have := hb4.size; (try simp at this); omega
    go_wp2_with fail
    refine (R1.out _).mono ?_; rintro e w5 ⟨rfl, hb5⟩
    replace hb5 := bstep hb4 hb5
    clear hc4 hf4 hb4
    obtain ⟨hc5, hf5⟩ := bcell hb5
    obtain ⟨hz0, hz1⟩ : w.heap.size < w5.heap.size ∧ w.heap.size + 1 < w5.heap.size := by have := hb5.size; (try simp at this); omega
    have hB5 : Below w.heap.size w w5 := bfin (by go_grown) hb5
    go_wp2_with fail
    refine (R2.out _).mono ?_; rintro e w6 ⟨rfl, hb6⟩
    obtain ⟨hc6, hf6⟩ := bcell hb6
    obtain ⟨hz6_0, hz6_1, hz6_2, hz6_3⟩ : w.heap.size < w6.heap.size ∧ w.heap.size + 1 < w6.heap.size ∧ w5.heap.size < w6.heap.size ∧ w5.heap.size + 1 < w6.heap.size := by have := hb6.size; (try simp at this); omega
    have hB6 : Below w.heap.size w w6 := bfin (by go_grown) hb6
    go_wp2_with fail
    go_ret2
    exact ⟨rfl, by go_grown⟩
  rw [hf] at I1
  rw [hg] at I2
  clear s1 s2
  cases hd1 : defB f.x f.y f.z
  · rw [hd1] at D1
    clear hd1
    by_cases q1 : indB f.x f.y f.z = true ∧ redB f.x f.y f.z = true
    · rw [given_yes hf q1] at G1
      by_cases q2 : indB g.x g.y g.z = true ∧ redB g.x g.y g.z = true
      · rw [given_yes hg q2] at G2
        by_cases q3 : 2000 < disc f.x f.y f.z
        · rw [equ_no hf hg hd (fun h => cycB_no2 q3 h.1)]
          clear q1 q2 hd
          generalize disc f.x f.y f.z = V1 at *
          generalize disc g.x g.y g.z = V2 at *
          obtain ⟨a, b, c⟩ := f
          obtain ⟨p, q, r⟩ := g
          simp only at *
          go_enter Try.func24, Try.ntmps24
          go_wp2_with fail
          refine (I1.out _).mono ?_; rintro e w1 ⟨rfl, hb1⟩
          obtain ⟨hc1, hf1⟩ := bcell hb1
          obtain ⟨hz0, hz1⟩ : w.heap.size < w1.heap.size ∧ w.heap.size + 1 < w1.heap.size := by have := hb1.size; (try simp at this); omega
          go_wp2_with fail
          refine (I2.out _).mono ?_; rintro e w2 ⟨rfl, hb2⟩
          replace hb2 := bstep hb1 hb2
          clear hc1 hf1 hb1
          obtain ⟨hc2, hf2⟩ := bcell hb2
          obtain ⟨hz0, hz1⟩ : w.heap.size < w2.heap.size ∧ w.heap.size + 1 < w2.heap.size := by have := hb2.size; (try simp at this); omega
          go_wp2_with fail
          refine (D1.out _).mono ?_; rintro e w3 ⟨rfl, hb3⟩
          replace hb3 := bstep hb2 hb3
          clear hc2 hf2 hb2
          obtain ⟨hc3, hf3⟩ := bcell hb3
          obtain ⟨hz0, hz1⟩ : w.heap.size < w3.heap.size ∧ w.heap.size + 1 < w3.heap.size := by have := hb3.size; (try simp at this); omega
          go_wp2_with fail
          refine (G1.out _).mono ?_; rintro e w4 ⟨rfl, hb4⟩
          replace hb4 := bstep hb3 hb4
          clear hc3 hf3 hb3
          obtain ⟨hc4, hf4⟩ := bcell hb4
          obtain ⟨hz0, hz1⟩ : w.heap.size < w4.heap.size ∧ w.heap.size + 1 < w4.heap.size := by have := hb4.size; (try simp at this); omega
          go_wp2_with fail
          refine (G2.out _).mono ?_; rintro e w5 ⟨rfl, hb5⟩
          replace hb5 := bstep hb4 hb5
          clear hc4 hf4 hb4
          obtain ⟨hc5, hf5⟩ := bcell hb5
          obtain ⟨hz0, hz1⟩ : w.heap.size < w5.heap.size ∧ w.heap.size + 1 < w5.heap.size := by have := hb5.size; (try simp at this); omega
          go_wp2_with fail
          refine (K1.out _).mono ?_; rintro e w6 ⟨rfl, hb6⟩
          replace hb6 := bstep hb5 hb6
          clear hc5 hf5 hb5
          obtain ⟨hc6, hf6⟩ := bcell hb6
          have hB6 : Below w.heap.size w w6 := bfin (by go_grown) hb6
          go_wp2_with fail
          go_ret2
          exact ⟨rfl, by go_grown⟩
        · by_cases q4 : 2000 < disc g.x g.y g.z
          · rw [equ_no hf hg hd (fun h => cycB_no2 q4 h.2)]
            clear q1 q2 hd
            generalize disc f.x f.y f.z = V1 at *
            generalize disc g.x g.y g.z = V2 at *
            obtain ⟨a, b, c⟩ := f
            obtain ⟨p, q, r⟩ := g
            simp only at *
            go_enter Try.func24, Try.ntmps24
            go_wp2_with fail
            refine (I1.out _).mono ?_; rintro e w1 ⟨rfl, hb1⟩
            obtain ⟨hc1, hf1⟩ := bcell hb1
            obtain ⟨hz0, hz1⟩ : w.heap.size < w1.heap.size ∧ w.heap.size + 1 < w1.heap.size := by have := hb1.size; (try simp at this); omega
            go_wp2_with fail
            refine (I2.out _).mono ?_; rintro e w2 ⟨rfl, hb2⟩
            replace hb2 := bstep hb1 hb2
            clear hc1 hf1 hb1
            obtain ⟨hc2, hf2⟩ := bcell hb2
            obtain ⟨hz0, hz1⟩ : w.heap.size < w2.heap.size ∧ w.heap.size + 1 < w2.heap.size := by have := hb2.size; (try simp at this); omega
            go_wp2_with fail
            refine (D1.out _).mono ?_; rintro e w3 ⟨rfl, hb3⟩
            replace hb3 := bstep hb2 hb3
            clear hc2 hf2 hb2
            obtain ⟨hc3, hf3⟩ := bcell hb3
            obtain ⟨hz0, hz1⟩ : w.heap.size < w3.heap.size ∧ w.heap.size + 1 < w3.heap.size := by have := hb3.size; (try simp at this); omega
            go_wp2_with fail
            refine (G1.out _).mono ?_; rintro e w4 ⟨rfl, hb4⟩
            replace hb4 := bstep hb3 hb4
            clear hc3 hf3 hb3
            obtain ⟨hc4, hf4⟩ := bcell hb4
            obtain ⟨hz0, hz1⟩ : w.heap.size < w4.heap.size ∧ w.heap.size + 1 < w4.heap.size := by have := hb4.size; (try simp at this); omega
            go_wp2_with fail
            refine (G2.out _).mono ?_; rintro e w5 ⟨rfl, hb5⟩
            replace hb5 := bstep hb4 hb5
            clear hc4 hf4 hb4
            obtain ⟨hc5, hf5⟩ := bcell hb5
            obtain ⟨hz0, hz1⟩ : w.heap.size < w5.heap.size ∧ w.heap.size + 1 < w5.heap.size := by have := hb5.size; (try simp at this); omega
            go_wp2_with fail
            refine (K1.out _).mono ?_; rintro e w6 ⟨rfl, hb6⟩
            replace hb6 := bstep hb5 hb6
            clear hc5 hf5 hb5
            obtain ⟨hc6, hf6⟩ := bcell hb6
            obtain ⟨hz0, hz1⟩ : w.heap.size < w6.heap.size ∧ w.heap.size + 1 < w6.heap.size := by have := hb6.size; (try simp at this); omega
            go_wp2_with fail
            refine (K2.out _).mono ?_; rintro e w7 ⟨rfl, hb7⟩
            replace hb7 := bstep hb6 hb7
            clear hc6 hf6 hb6
            obtain ⟨hc7, hf7⟩ := bcell hb7
            have hB7 : Below w.heap.size w w7 := bfin (by go_grown) hb7
            go_wp2_with fail
            go_ret2
            exact ⟨rfl, by go_grown⟩
          · have hcy := isCyc_cycB (cycB_yes q1 q3)
            rw [equ_cyc hf hg hd ⟨cycB_yes q1 q3, cycB_yes q2 q4⟩]
            obtain ⟨N, hP⟩ := hcy.period
            have hN2 := hP.n2
            rw [cycR_eq hP]
            have HC := Lib.hid (fun W => l05Cycle_any f N W hcy hP)
            have HP := Lib.hid (fun q => @eqF q g)
            have HY := Lib.hid (fun k hk h => @memF_step g (cycL f N) k hk h)
            have HN := Lib.hid (@memF_end g (cycL f N))
            have hnl := cycL_len f N
            clear hcy hP q1 q2 hd
            generalize disc f.x f.y f.z = V1 at *
            generalize disc g.x g.y g.z = V2 at *
            generalize memF g (cycL f N) = M at *
            generalize cycL f N = L at *
            subst hnl
            obtain ⟨a, b, c⟩ := f
            obtain ⟨p, q, r⟩ := g
            simp only at *
            go_enter Try.func24, Try.ntmps24
            go_wp2_with fail
            refine (I1.out _).mono ?_; rintro e w1 ⟨rfl, hb1⟩
            obtain ⟨hc1, hf1⟩ := bcell hb1
            obtain ⟨hz0, hz1⟩ : w.heap.size < w1.heap.size ∧ w.heap.size + 1 < w1.heap.size := by have := hb1.size; (try simp at this); omega
            go_wp2_with fail
            refine (I2.out _).mono ?_; rintro e w2 ⟨rfl, hb2⟩
            replace hb2 := bstep hb1 hb2
            clear hc1 hf1 hb1
            obtain ⟨hc2, hf2⟩ := bcell hb2
            obtain ⟨hz0, hz1⟩ : w.heap.size < w2.heap.size ∧ w.heap.size + 1 < w2.heap.size := by have := hb2.size; (try simp at this); omega
            go_wp2_with fail
            refine (D1.out _).mono ?_; rintro e w3 ⟨rfl, hb3⟩
            replace hb3 := bstep hb2 hb3
            clear hc2 hf2 hb2
            obtain ⟨hc3, hf3⟩ := bcell hb3
            obtain ⟨hz0, hz1⟩ : w.heap.size < w3.heap.size ∧ w.heap.size + 1 < w3.heap.size := by have := hb3.size; (try simp at this); omega
            go_wp2_with fail
            refine (G1.out _).mono ?_; rintro e w4 ⟨rfl, hb4⟩
            replace hb4 := bstep hb3 hb4
            clear hc3 hf3 hb3
            obtain ⟨hc4, hf4⟩ := bcell hb4
            obtain ⟨hz0, hz1⟩ : w.heap.size < w4.heap.size ∧ w.heap.size + 1 < w4.heap.size := by have := hb4.size; (try simp at this); omega
            go_wp2_with fail
            refine (G2.out _).mono ?_; rintro e w5 ⟨rfl, hb5⟩
            replace hb5 := bstep hb4 hb5
            clear hc4 hf4 hb4
            obtain ⟨hc5, hf5⟩ := bcell hb5
            obtain ⟨hz0, hz1⟩ : w.heap.size < w5.heap.size ∧ w.heap.size + 1 < w5.heap.size := by have := hb5.size; (try simp at this); omega
            go_wp2_with fail
            refine (K1.out _).mono ?_; rintro e w6 ⟨rfl, hb6⟩
            replace hb6 := bstep hb5 hb6
            clear hc5 hf5 hb5
            obtain ⟨hc6, hf6⟩ := bcell hb6
            obtain ⟨hz0, hz1⟩ : w.heap.size < w6.heap.size ∧ w.heap.size + 1 < w6.heap.size := by have := hb6.size; (try simp at this); omega
            go_wp2_with fail
            refine (K2.out _).mono ?_; rintro e w7 ⟨rfl, hb7⟩
            replace hb7 := bstep hb6 hb7
            clear hc6 hf6 hb6
            obtain ⟨hc7, hf7⟩ := bcell hb7
            obtain ⟨hz0, hz1⟩ : w.heap.size < w7.heap.size ∧ w.heap.size + 1 < w7.heap.size := by have := hb7.size; (try simp at this); omega
            go_wp2_with fail
            refine (HC.out _).mono ?_; rintro e w8 ⟨v, rfl, hown, hb8⟩
            have hB7 : Below w.heap.size w w7 := bfin (by go_grown) hb7
            have hB8 := hB7.trans (hb8.mono hB7.size)
            have HX := Lib.hid (show Blk3 w8 (w.heap.size + 1) 34 p q r from heap_below (heap_below (by exact heap_new' (by simp)) hb7) hb8)
            obtain ⟨A, cap, rfl, hcap, hmax, hat⟩ := own_view hown
            unfold maxLen at hmax
            have HA := Lib.hid hat
            clear hown hat hc7 hf7
            obtain ⟨⟨z0, z1, z2⟩, ⟨fz0, fz1, fz2⟩, lz⟩ := HX.out.open_
            go_wp2_with fail
            go_loopw [11] (fun i wr => ∃ k : Nat, i = (.int .i64 ((k : Int))) ∧ k ≤ L.length ∧ Hid (∀ j (hj : j < L.length), j < k → L[j] ≠ ⟨p, q, r⟩) ∧ Below w8.heap.size w8 wr) (fun i _ => L.length - (intOf i).toNat)
            case atStart => exact ⟨0, rfl, Nat.zero_le _, Lib.hid (fun j _ hj => by omega), Below.refl _ _⟩
            case round =>
              obtain ⟨k, rfl, hk, HB, hb⟩ := hrel
              have hbw := hB8.trans (hb.mono hB8.size)
              obtain ⟨⟨y0, y1, y2⟩, ⟨fy0, fy1, fy2⟩, ly⟩ := Blk3.open_ (heap_below HX.out hb)
              by_cases hlt : k < L.length
              · obtain ⟨bb, rfl, -, hbl, hc, -⟩ := (HA.out.below hb) (by omega)
                obtain ⟨hx, hy, hz⟩ := flatF_at hlt
                have h1 := hc _ _ hx
                have h2 := hc _ _ hy
                have h3 := hc _ _ hz
                have HE := Lib.hid (HP.out L[k])
                have HHk := Lib.hid (fun h => HY.out k hlt h)
                have HBn := Lib.hid (show L[k] ≠ ⟨p, q, r⟩ → ∀ j (hj : j < L.length), j < k + 1 → L[j] ≠ ⟨p, q, r⟩ from fun hne j hj hjk => by
                  by_cases e : j = k
                  · subst e; exact hne
                  · exact HB.out j hj (by omega))
                clear hc hx hy hz
                generalize L[k] = u at *
                by_cases he : u = ⟨p, q, r⟩
                · have hE : (u.x == p && (u.y == q && u.z == r)) = true := by rw [HE.out]; simp [he]
                  have HV := Lib.hid (HHk.out he)
                  clear he
                  go_wp2_with fail
                  go_quiet (fail)
                  go_wp2_with fail
                  go_ret2
                  exact ⟨by rw [HV.out]; rfl, below_drewN hbw _⟩
                · have hE : (u.x == p && (u.y == q && u.z == r)) = false := by rw [HE.out]; simp only [decide_eq_false_iff_not]; exact he
                  have HE2 := Lib.hid (HBn.out he)
                  clear he
                  go_wp2_with fail
                  go_quiet (fail)
                  go_wp2_with fail
                  go_roundw
                  case rel => exact ⟨k + 1, by go_num, by omega, HE2, below_drewN hb _⟩
                  case measure => simp [intOf]; omega
              · obtain rfl : k = L.length := by omega
                have HV := Lib.hid (HN.out HB.out)
                go_wp2_with fail
                go_ret2
                exact ⟨by rw [HV.out]; rfl, hbw⟩
      · rw [given_no hg q2] at G2
        rw [equ_no hf hg hd (fun h => cycB_no1 q2 h.2)]
        clear q1 q2 hd
        generalize disc f.x f.y f.z = V1 at *
        generalize disc g.x g.y g.z = V2 at *
        obtain ⟨a, b, c⟩ := f
        obtain ⟨p, q, r⟩ := g
        simp only at *
        go_enter Try.func24, Try.ntmps24
        go_wp2_with fail
        refine (I1.out _).mono ?_; rintro e w1 ⟨rfl, hb1⟩
        obtain ⟨hc1, hf1⟩ := bcell hb1
        obtain ⟨hz0, hz1⟩ : w.heap.size < w1.heap.size ∧ w.heap.size + 1 < w1.heap.size := by have := hb1.size; (try simp at this); omega
        go_wp2_with fail
        refine (I2.out _).mono ?_; rintro e w2 ⟨rfl, hb2⟩
        replace hb2 := bstep hb1 hb2
        clear hc1 hf1 hb1
        obtain ⟨hc2, hf2⟩ := bcell hb2
        obtain ⟨hz0, hz1⟩ : w.heap.size < w2.heap.size ∧ w.heap.size + 1 < w2.heap.size := by have := hb2.size; (try simp at this); omega
        go_wp2_with fail
        refine (D1.out _).mono ?_; rintro e w3 ⟨rfl, hb3⟩
        replace hb3 := bstep hb2 hb3
        clear hc2 hf2 hb2
        obtain ⟨hc3, hf3⟩ := bcell hb3
        obtain ⟨hz0, hz1⟩ : w.heap.size < w3.heap.size ∧ w.heap.size + 1 < w3.heap.size := by have := hb3.size; (try simp at this); omega
        go_wp2_with fail
        refine (G1.out _).mono ?_; rintro e w4 ⟨rfl, hb4⟩
        replace hb4 := bstep hb3 hb4
        clear hc3 hf3 hb3
        obtain ⟨hc4, hf4⟩ := bcell hb4
        obtain ⟨hz0, hz1⟩ : w.heap.size < w4.heap.size ∧ w.heap.size + 1 < w4.heap.size := by have := hb4.size; (try simp at this); omega
        go_wp2_with fail
        refine (G2.out _).mono ?_; rintro e w5 ⟨rfl, hb5⟩
        replace hb5 := bstep hb4 hb5
        clear hc4 hf4 hb4
        obtain ⟨hc5, hf5⟩ := bcell hb5
        have hB5 : Below w.heap.size w w5 := bfin (by go_grown) hb5
        go_wp2_with fail
        go_ret2
        exact ⟨rfl, by go_grown⟩
    · rw [given_no hf q1] at G1
      rw [equ_no hf hg hd (fun h => cycB_no1 q1 h.1)]
      clear q1 hd
      generalize disc f.x f.y f.z = V1 at *
      generalize disc g.x g.y g.z = V2 at *
      obtain ⟨a, b, c⟩ := f
      obtain ⟨p, q, r⟩ := g
      simp only at *
      go_enter Try.func24, Try.ntmps24
      go_wp2_with fail
      refine (I1.out _).mono ?_; rintro e w1 ⟨rfl, hb1⟩
      obtain ⟨hc1, hf1⟩ := bcell hb1
      obtain ⟨hz0, hz1⟩ : w.heap.size < w1.heap.size ∧ w.heap.size + 1 < w1.heap.size := by have := hb1.size; (try simp at this); omega
      go_wp2_with fail
      refine (I2.out _).mono ?_; rintro e w2 ⟨rfl, hb2⟩
      replace hb2 := bstep hb1 hb2
      clear hc1 hf1 hb1
      obtain ⟨hc2, hf2⟩ := bcell hb2
      obtain ⟨hz0, hz1⟩ : w.heap.size < w2.heap.size ∧ w.heap.size + 1 < w2.heap.size := by have := hb2.size; (try simp at this); omega
      go_wp2_with fail
      refine (D1.out _).mono ?_; rintro e w3 ⟨rfl, hb3⟩
      replace hb3 := bstep hb2 hb3
      clear hc2 hf2 hb2
      obtain ⟨hc3, hf3⟩ := bcell hb3
      obtain ⟨hz0, hz1⟩ : w.heap.size < w3.heap.size ∧ w.heap.size + 1 < w3.heap.size := by have := hb3.size; (try simp at this); omega
      go_wp2_with fail
      refine (G1.out _).mono ?_; rintro e w4 ⟨rfl, hb4⟩
      replace hb4 := bstep hb3 hb4
      clear hc3 hf3 hb3
      obtain ⟨hc4, hf4⟩ := bcell hb4
      have hB4 : Below w.heap.size w w4 := bfin (by go_grown) hb4
      go_wp2_with fail
      go_ret2
      exact ⟨rfl, by go_grown⟩
  · have hd2 : defB g.x g.y g.z = false := by cases h : defB g.x g.y g.z; rfl; exact absurd ⟨hd1, h⟩ hd
    rw [hd1] at D1
    rw [hd2] at D2
    clear hd1 hd2
    by_cases q1 : indB f.x f.y f.z = true ∧ redB f.x f.y f.z = true
    · rw [given_yes hf q1] at G1
      by_cases q2 : indB g.x g.y g.z = true ∧ redB g.x g.y g.z = true
      · rw [given_yes hg q2] at G2
        by_cases q3 : 2000 < disc f.x f.y f.z
        · rw [equ_no hf hg hd (fun h => cycB_no2 q3 h.1)]
          clear q1 q2 hd
          generalize disc f.x f.y f.z = V1 at *
          generalize disc g.x g.y g.z = V2 at *
          obtain ⟨a, b, c⟩ := f
          obtain ⟨p, q, r⟩ := g
          simp only at *
          go_enter Try.func24, Try.ntmps24
          go_wp2_with fail
          refine (I1.out _).mono ?_; rintro e w1 ⟨rfl, hb1⟩
          obtain ⟨hc1, hf1⟩ := bcell hb1
          obtain ⟨hz0, hz1⟩ : w.heap.size < w1.heap.size ∧ w.heap.size + 1 < w1.heap.size := by have := hb1.size; (try simp at this); omega
          go_wp2_with fail
          refine (I2.out _).mono ?_; rintro e w2 ⟨rfl, hb2⟩
          replace hb2 := bstep hb1 hb2
          clear hc1 hf1 hb1
          obtain ⟨hc2, hf2⟩ := bcell hb2
          obtain ⟨hz0, hz1⟩ : w.heap.size < w2.heap.size ∧ w.heap.size + 1 < w2.heap.size := by have := hb2.size; (try simp at this); omega
          go_wp2_with fail
          refine (D1.out _).mono ?_; rintro e w3 ⟨rfl, hb3⟩
          replace hb3 := bstep hb2 hb3
          clear hc2 hf2 hb2
          obtain ⟨hc3, hf3⟩ := bcell hb3
          obtain ⟨hz0, hz1⟩ : w.heap.size < w3.heap.size ∧ w.heap.size + 1 < w3.heap.size := by have := hb3.size; (try simp at this); omega
          go_wp2_with fail
          refine (D2.out _).mono ?_; rintro e w4 ⟨rfl, hb4⟩
          replace hb4 := bstep hb3 hb4
          clear hc3 hf3 hb3
          obtain ⟨hc4, hf4⟩ := bcell hb4
          obtain ⟨hz0, hz1⟩ : w.heap.size < w4.heap.size ∧ w.heap.size + 1 < w4.heap.size := by have := hb4.size; (try simp at this); omega
          go_wp2_with fail
          refine (G1.out _).mono ?_; rintro e w5 ⟨rfl, hb5⟩
          replace hb5 := bstep hb4 hb5
          clear hc4 hf4 hb4
          obtain ⟨hc5, hf5⟩ := bcell hb5
          obtain ⟨hz0, hz1⟩ : w.heap.size < w5.heap.size ∧ w.heap.size + 1 < w5.heap.size := by have := hb5.size; (try simp at this); omega
          go_wp2_with fail
          refine (G2.out _).mono ?_; rintro e w6 ⟨rfl, hb6⟩
          replace hb6 := bstep hb5 hb6
          clear hc5 hf5 hb5
          obtain ⟨hc6, hf6⟩ := bcell hb6
          obtain ⟨hz0, hz1⟩ : w.heap.size < w6.heap.size ∧ w.heap.size + 1 < w6.heap.size := by have := hb6.size; (try simp at this); omega
          go_wp2_with fail
          refine (K1.out _).mono ?_; rintro e w7 ⟨rfl, hb7⟩
          replace hb7 := bstep hb6 hb7
          clear hc6 hf6 hb6
          obtain ⟨hc7, hf7⟩ := bcell hb7
          have hB7 : Below w.heap.size w w7 := bfin (by go_grown) hb7
          go_wp2_with fail
          go_ret2
          exact ⟨rfl, by go_grown⟩
        · by_cases q4 : 2000 < disc g.x g.y g.z
          · rw [equ_no hf hg hd (fun h => cycB_no2 q4 h.2)]
            clear q1 q2 hd
            generalize disc f.x f.y f.z = V1 at *
            generalize disc g.x g.y g.z = V2 at *
            obtain ⟨a, b, c⟩ := f
            obtain ⟨p, q, r⟩ := g
            simp only at *
            go_enter Try.func24, Try.ntmps24
            go_wp2_with fail
            refine (I1.out _).mono ?_; rintro e w1 ⟨rfl, hb1⟩
            obtain ⟨hc1, hf1⟩ := bcell hb1
            obtain ⟨hz0, hz1⟩ : w.heap.size < w1.heap.size ∧ w.heap.size + 1 < w1.heap.size := by have := hb1.size; (try simp at this); omega
            go_wp2_with fail
            refine (I2.out _).mono ?_; rintro e w2 ⟨rfl, hb2⟩
            replace hb2 := bstep hb1 hb2
            clear hc1 hf1 hb1
            obtain ⟨hc2, hf2⟩ := bcell hb2
            obtain ⟨hz0, hz1⟩ : w.heap.size < w2.heap.size ∧ w.heap.size + 1 < w2.heap.size := by have := hb2.size; (try simp at this); omega
            go_wp2_with fail
            refine (D1.out _).mono ?_; rintro e w3 ⟨rfl, hb3⟩
            replace hb3 := bstep hb2 hb3
            clear hc2 hf2 hb2
            obtain ⟨hc3, hf3⟩ := bcell hb3
            obtain ⟨hz0, hz1⟩ : w.heap.size < w3.heap.size ∧ w.heap.size + 1 < w3.heap.size := by have := hb3.size; (try simp at this); omega
            go_wp2_with fail
            refine (D2.out _).mono ?_; rintro e w4 ⟨rfl, hb4⟩
            replace hb4 := bstep hb3 hb4
            clear hc3 hf3 hb3
            obtain ⟨hc4, hf4⟩ := bcell hb4
            obtain ⟨hz0, hz1⟩ : w.heap.size < w4.heap.size ∧ w.heap.size + 1 < w4.heap.size := by have := hb4.size; (try simp at this); omega
            go_wp2_with fail
            refine (G1.out _).mono ?_; rintro e w5 ⟨rfl, hb5⟩
            replace hb5 := bstep hb4 hb5
            clear hc4 hf4 hb4
            obtain ⟨hc5, hf5⟩ := bcell hb5
            obtain ⟨hz0, hz1⟩ : w.heap.size < w5.heap.size ∧ w.heap.size + 1 < w5.heap.size := by have := hb5.size; (try simp at this); omega
            go_wp2_with fail
            refine (G2.out _).mono ?_; rintro e w6 ⟨rfl, hb6⟩
            replace hb6 := bstep hb5 hb6
            clear hc5 hf5 hb5
            obtain ⟨hc6, hf6⟩ := bcell hb6
            obtain ⟨hz0, hz1⟩ : w.heap.size < w6.heap.size ∧ w.heap.size + 1 < w6.heap.size := by have := hb6.size; (try simp at this); omega
            go_wp2_with fail
            refine (K1.out _).mono ?_; rintro e w7 ⟨rfl, hb7⟩
            replace hb7 := bstep hb6 hb7
            clear hc6 hf6 hb6
            obtain ⟨hc7, hf7⟩ := bcell hb7
            obtain ⟨hz0, hz1⟩ : w.heap.size < w7.heap.size ∧ w.heap.size + 1 < w7.heap.size := by have := hb7.size; (try simp at this); omega
            go_wp2_with fail
            refine (K2.out _).mono ?_; rintro e w8 ⟨rfl, hb8⟩
            replace hb8 := bstep hb7 hb8
            clear hc7 hf7 hb7
            obtain ⟨hc8, hf8⟩ := bcell hb8
            have hB8 : Below w.heap.size w w8 := bfin (by go_grown) hb8
            go_wp2_with fail
            go_ret2
            exact ⟨rfl, by go_grown⟩
          · have hcy := isCyc_cycB (cycB_yes q1 q3)
            rw [equ_cyc hf hg hd ⟨cycB_yes q1 q3, cycB_yes q2 q4⟩]
            obtain ⟨N, hP⟩ := hcy.period
            have hN2 := hP.n2
            rw [cycR_eq hP]
            have HC := Lib.hid (fun W => l05Cycle_any f N W hcy hP)
            have HP := Lib.hid (fun q => @eqF q g)
            have HY := Lib.hid (fun k hk h => @memF_step g (cycL f N) k hk h)
            have HN := Lib.hid (@memF_end g (cycL f N))
            have hnl := cycL_len f N
            clear hcy hP q1 q2 hd
            generalize disc f.x f.y f.z = V1 at *
            generalize disc g.x g.y g.z = V2 at *
            generalize memF g (cycL f N) = M at *
            generalize cycL f N = L at *
            subst hnl
            obtain ⟨a, b, c⟩ := f
            obtain ⟨p, q, r⟩ := g
            simp only at *
            go_enter Try.func24, Try.ntmps24
            go_wp2_with fail
            refine (I1.out _).mono ?_; rintro e w1 ⟨rfl, hb1⟩
            obtain ⟨hc1, hf1⟩ := bcell hb1
            obtain ⟨hz0, hz1⟩ : w.heap.size < w1.heap.size ∧ w.heap.size + 1 < w1.heap.size := by have := hb1.size; (try simp at this); omega
            go_wp2_with fail
            refine (I2.out _).mono ?_; rintro e w2 ⟨rfl, hb2⟩
            replace hb2 := bstep hb1 hb2
            clear hc1 hf1 hb1
            obtain ⟨hc2, hf2⟩ := bcell hb2
            obtain ⟨hz0, hz1⟩ : w.heap.size < w2.heap.size ∧ w.heap.size + 1 < w2.heap.size := by have := hb2.size; (try simp at this); omega
            go_wp2_with fail
            refine (D1.out _).mono ?_; rintro e w3 ⟨rfl, hb3⟩
            replace hb3 := bstep hb2 hb3
            clear hc2 hf2 hb2
            obtain ⟨hc3, hf3⟩ := bcell hb3
            obtain ⟨hz0, hz1⟩ : w.heap.size < w3.heap.size ∧ w.heap.size + 1 < w3.heap.size := by have := hb3.size; (try simp at this); omega
            go_wp2_with fail
            refine (D2.out _).mono ?_; rintro e w4 ⟨rfl, hb4⟩
            replace hb4 := bstep hb3 hb4
            clear hc3 hf3 hb3
            obtain ⟨hc4, hf4⟩ := bcell hb4
            obtain ⟨hz0, hz1⟩ : w.heap.size < w4.heap.size ∧ w.heap.size + 1 < w4.heap.size := by have := hb4.size; (try simp at this); omega
            go_wp2_with fail
            refine (G1.out _).mono ?_; rintro e w5 ⟨rfl, hb5⟩
            replace hb5 := bstep hb4 hb5
            clear hc4 hf4 hb4
            obtain ⟨hc5, hf5⟩ := bcell hb5
            obtain ⟨hz0, hz1⟩ : w.heap.size < w5.heap.size ∧ w.heap.size + 1 < w5.heap.size := by have := hb5.size; (try simp at this); omega
            go_wp2_with fail
            refine (G2.out _).mono ?_; rintro e w6 ⟨rfl, hb6⟩
            replace hb6 := bstep hb5 hb6
            clear hc5 hf5 hb5
            obtain ⟨hc6, hf6⟩ := bcell hb6
            obtain ⟨hz0, hz1⟩ : w.heap.size < w6.heap.size ∧ w.heap.size + 1 < w6.heap.size := by have := hb6.size; (try simp at this); omega
            go_wp2_with fail
            refine (K1.out _).mono ?_; rintro e w7 ⟨rfl, hb7⟩
            replace hb7 := bstep hb6 hb7
            clear hc6 hf6 hb6
            obtain ⟨hc7, hf7⟩ := bcell hb7
            obtain ⟨hz0, hz1⟩ : w.heap.size < w7.heap.size ∧ w.heap.size + 1 < w7.heap.size := by have := hb7.size; (try simp at this); omega
            go_wp2_with fail
            refine (K2.out _).mono ?_; rintro e w8 ⟨rfl, hb8⟩
            replace hb8 := bstep hb7 hb8
            clear hc7 hf7 hb7
            obtain ⟨hc8, hf8⟩ := bcell hb8
            obtain ⟨hz0, hz1⟩ : w.heap.size < w8.heap.size ∧ w.heap.size + 1 < w8.heap.size := by have := hb8.size; (try simp at this); omega
            go_wp2_with fail
            refine (HC.out _).mono ?_; rintro e w9 ⟨v, rfl, hown, hb9⟩
            have hB8 : Below w.heap.size w w8 := bfin (by go_grown) hb8
            have hB9 := hB8.trans (hb9.mono hB8.size)
            have HX := Lib.hid (show Blk3 w9 (w.heap.size + 1) 34 p q r from heap_below (heap_below (by exact heap_new' (by simp)) hb8) hb9)
            obtain ⟨A, cap, rfl, hcap, hmax, hat⟩ := own_view hown
            unfold maxLen at hmax
            have HA := Lib.hid hat
            clear hown hat hc8 hf8
            obtain ⟨⟨z0, z1, z2⟩, ⟨fz0, fz1, fz2⟩, lz⟩ := HX.out.open_
            go_wp2_with fail
            go_loopw [11] (fun i wr => ∃ k : Nat, i = (.int .i64 ((k : Int))) ∧ k ≤ L.length ∧ Hid (∀ j (hj : j < L.length), j < k → L[j] ≠ ⟨p, q, r⟩) ∧ Below w9.heap.size w9 wr) (fun i _ => L.length - (intOf i).toNat)
            case atStart => exact ⟨0, rfl, Nat.zero_le _, Lib.hid (fun j _ hj => by omega), Below.refl _ _⟩
            case round =>
              obtain ⟨k, rfl, hk, HB, hb⟩ := hrel
              have hbw := hB9.trans (hb.mono hB9.size)
              obtain ⟨⟨y0, y1, y2⟩, ⟨fy0, fy1, fy2⟩, ly⟩ := Blk3.open_ (heap_below HX.out hb)
              by_cases hlt : k < L.length
              · obtain ⟨bb, rfl, -, hbl, hc, -⟩ := (HA.out.below hb) (by omega)
                obtain ⟨hx, hy, hz⟩ := flatF_at hlt
                have h1 := hc _ _ hx
                have h2 := hc _ _ hy
                have h3 := hc _ _ hz
                have HE := Lib.hid (HP.out L[k])
                have HHk := Lib.hid (fun h => HY.out k hlt h)
                have HBn := Lib.hid (show L[k] ≠ ⟨p, q, r⟩ → ∀ j (hj : j < L.length), j < k + 1 → L[j] ≠ ⟨p, q, r⟩ from fun hne j hj hjk => by
                  by_cases e : j = k
                  · subst e; exact hne
                  · exact HB.out j hj (by omega))
                clear hc hx hy hz
                generalize L[k] = u at *
                by_cases he : u = ⟨p, q, r⟩
                · have hE : (u.x == p && (u.y == q && u.z == r)) = true := by rw [HE.out]; simp [he]
                  have HV := Lib.hid (HHk.out he)
                  clear he
                  go_wp2_with fail
                  go_quiet (fail)
                  go_wp2_with fail
                  go_ret2
                  exact ⟨by rw [HV.out]; rfl, below_drewN hbw _⟩
                · have hE : (u.x == p && (u.y == q && u.z == r)) = false := by rw [HE.out]; simp only [decide_eq_false_iff_not]; exact he
                  have HE2 := Lib.hid (HBn.out he)
                  clear he
                  go_wp2_with fail
                  go_quiet (fail)
                  go_wp2_with fail
                  go_roundw
                  case rel => exact ⟨k + 1, by go_num, by omega, HE2, below_drewN hb _⟩
                  case measure => simp [intOf]; omega
              · obtain rfl : k = L.length := by omega
                have HV := Lib.hid (HN.out HB.out)
                go_wp2_with fail
                go_ret2
                exact ⟨by rw [HV.out]; rfl, hbw⟩
      · rw [given_no hg q2] at G2
        rw [equ_no hf hg hd (fun h => cycB_no1 q2 h.2)]
        clear q1 q2 hd
        generalize disc f.x f.y f.z = V1 at *
        generalize disc g.x g.y g.z = V2 at *
        obtain ⟨a, b, c⟩ := f
        obtain ⟨p, q, r⟩ := g
        simp only at *
        go_enter Try.func24, Try.ntmps24
        go_wp2_with fail
        refine (I1.out _).mono ?_; rintro e w1 ⟨rfl, hb1⟩
        obtain ⟨hc1, hf1⟩ := bcell hb1
        obtain ⟨hz0, hz1⟩ : w.heap.size < w1.heap.size ∧ w.heap.size + 1 < w1.heap.size := by have := hb1.size; (try simp at this); omega
        go_wp2_with fail
        refine (I2.out _).mono ?_; rintro e w2 ⟨rfl, hb2⟩
        replace hb2 := bstep hb1 hb2
        clear hc1 hf1 hb1
        obtain ⟨hc2, hf2⟩ := bcell hb2
        obtain ⟨hz0, hz1⟩ : w.heap.size < w2.heap.size ∧ w.heap.size + 1 < w2.heap.size := by have := hb2.size; (try simp at this); omega
        go_wp2_with fail
        refine (D1.out _).mono ?_; rintro e w3 ⟨rfl, hb3⟩
        replace hb3 := bstep hb2 hb3
        clear hc2 hf2 hb2
        obtain ⟨hc3, hf3⟩ := bcell hb3
        obtain ⟨hz0, hz1⟩ : w.heap.size < w3.heap.size ∧ w.heap.size + 1 < w3.heap.size := by have := hb3.size; (try simp at this); omega
        go_wp2_with fail
        refine (D2.out _).mono ?_; rintro e w4 ⟨rfl, hb4⟩
        replace hb4 := bstep hb3 hb4
        clear hc3 hf3 hb3
        obtain ⟨hc4, hf4⟩ := bcell hb4
        obtain ⟨hz0, hz1⟩ : w.heap.size < w4.heap.size ∧ w.heap.size + 1 < w4.heap.size := by have := hb4.size; (try simp at this); omega
        go_wp2_with fail
        refine (G1.out _).mono ?_; rintro e w5 ⟨rfl, hb5⟩
        replace hb5 := bstep hb4 hb5
        clear hc4 hf4 hb4
        obtain ⟨hc5, hf5⟩ := bcell hb5
        obtain ⟨hz0, hz1⟩ : w.heap.size < w5.heap.size ∧ w.heap.size + 1 < w5.heap.size := by have := hb5.size; (try simp at this); omega
        go_wp2_with fail
        refine (G2.out _).mono ?_; rintro e w6 ⟨rfl, hb6⟩
        replace hb6 := bstep hb5 hb6
        clear hc5 hf5 hb5
        obtain ⟨hc6, hf6⟩ := bcell hb6
        have hB6 : Below w.heap.size w w6 := bfin (by go_grown) hb6
        go_wp2_with fail
        go_ret2
        exact ⟨rfl, by go_grown⟩
    · rw [given_no hf q1] at G1
      rw [equ_no hf hg hd (fun h => cycB_no1 q1 h.1)]
      clear q1 hd
      generalize disc f.x f.y f.z = V1 at *
      generalize disc g.x g.y g.z = V2 at *
      obtain ⟨a, b, c⟩ := f
      obtain ⟨p, q, r⟩ := g
      simp only at *
      go_enter Try.func24, Try.ntmps24
      go_wp2_with fail
      refine (I1.out _).mono ?_; rintro e w1 ⟨rfl, hb1⟩
      obtain ⟨hc1, hf1⟩ := bcell hb1
      obtain ⟨hz0, hz1⟩ : w.heap.size < w1.heap.size ∧ w.heap.size + 1 < w1.heap.size := by have := hb1.size; (try simp at this); omega
      go_wp2_with fail
      refine (I2.out _).mono ?_; rintro e w2 ⟨rfl, hb2⟩
      replace hb2 := bstep hb1 hb2
      clear hc1 hf1 hb1
      obtain ⟨hc2, hf2⟩ := bcell hb2
      obtain ⟨hz0, hz1⟩ : w.heap.size < w2.heap.size ∧ w.heap.size + 1 < w2.heap.size := by have := hb2.size; (try simp at this); omega
      go_wp2_with fail
      refine (D1.out _).mono ?_; rintro e w3 ⟨rfl, hb3⟩
      replace hb3 := bstep hb2 hb3
      clear hc2 hf2 hb2
      obtain ⟨hc3, hf3⟩ := bcell hb3
      obtain ⟨hz0, hz1⟩ : w.heap.size < w3.heap.size ∧ w.heap.size + 1 < w3.heap.size := by have := hb3.size; (try simp at this); omega
      go_wp2_with fail
      refine (D2.out _).mono ?_; rintro e w4 ⟨rfl, hb4⟩
      replace hb4 := bstep hb3 hb4
      clear hc3 hf3 hb3
      obtain ⟨hc4, hf4⟩ := bcell hb4
      obtain ⟨hz0, hz1⟩ : w.heap.size < w4.heap.size ∧ w.heap.size + 1 < w4.heap.size := by have := hb4.size; (try simp at this); omega
      go_wp2_with fail
      refine (G1.out _).mono ?_; rintro e w5 ⟨rfl, hb5⟩
      replace hb5 := bstep hb4 hb5
      clear hc4 hf4 hb4
      obtain ⟨hc5, hf5⟩ := bcell hb5
      have hB5 : Below w.heap.size w w5 := bfin (by go_grown) hb5
      go_wp2_with fail
      go_ret2
      exact ⟨rfl, by go_grown⟩
end Go.Proofs.Ytcaiofhdcffogaa
