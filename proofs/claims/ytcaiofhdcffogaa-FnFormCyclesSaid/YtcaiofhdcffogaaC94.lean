/- Contracts: equivalent forms; the law AreEquivalent. -/
import Derived.Test.YtcaiofhdcffogaaC93
import Derived.Deep.RegionHeld3
namespace Go.Proofs.Ytcaiofhdcffogaa
open Go.RowKit
attribute [local go_sem] eqForm3
theorem flatF_at {l : List F3} {k : Nat} (h : k < l.length) : (ints (flatF l))[k * 3]? = some (.int .i64 l[k].x) ∧ (ints (flatF l))[k * 3 + 1]? = some (.int .i64 l[k].y) ∧ (ints (flatF l))[k * 3 + 2]? = some (.int .i64 l[k].z) := by
  induction l generalizing k with
  | nil => simp at h
  | cons p l ih =>
    cases k with
    | zero => simp [flatF, ints]
    | succ k =>
      have := ih (k := k) (by simpa using h)
      have e : ints (flatF (p :: l)) = .int .i64 p.x :: .int .i64 p.y :: .int .i64 p.z :: ints (flatF l) := by simp [flatF, ints]
      rw [e, show (k + 1) * 3 = k * 3 + 1 + 1 + 1 by omega]
      simp only [List.getElem?_cons_succ, List.getElem_cons_succ]
      exact this
/-- The place of a form in a list, or -1. -/
def findF (p : F3) : List F3 → Int → Int
  | [], _ => -1
  | q :: l, k => if q = p then k else findF p l (k + 1)
theorem findF_hit {p : F3} {l : List F3} {k : Nat} (hk : k < l.length) (h : l[k] = p) (hb : ∀ j (hj : j < k), l[j]'(by omega) ≠ p) (s : Int) : findF p l s = s + k := by
  induction l generalizing k s with
  | nil => simp at hk
  | cons q l ih =>
    unfold findF
    cases k with
    | zero => simp at h; rw [if_pos h]; simp
    | succ k =>
      have h0 := hb 0 (by omega)
      simp at h0 h
      rw [if_neg h0, ih (k := k) (by simpa using hk) h (fun j hj => by have := hb (j + 1) (by omega); simpa using this)]
      push_cast; omega
theorem findF_none {p : F3} {l : List F3} (h : p ∉ l) (s : Int) : findF p l s = -1 := by
  induction l generalizing s with
  | nil => rfl
  | cons q l ih =>
    simp at h
    unfold findF
    rw [if_neg (fun e => h.1 e.symm), ih h.2]
theorem findF_in {p : F3} {l : List F3} (h : p ∈ l) {s : Int} (hs : 0 ≤ s) : 0 ≤ findF p l s := by
  induction l generalizing s with
  | nil => simp at h
  | cons q l ih =>
    unfold findF
    split
    · exact hs
    · rename_i hne
      exact ih (by simp at h; rcases h with h | h; exact absurd h.symm hne; exact h) (by omega)
theorem findF_lo (p : F3) (l : List F3) (s : Int) (hs : 0 ≤ s) : -1 ≤ findF p l s ∧ findF p l s < s + l.length + 1 := by
  induction l generalizing s with
  | nil => simp [findF]; omega
  | cons q l ih =>
    unfold findF
    split
    · simp; omega
    · have := ih (s + 1) (by omega)
      simp only [List.length_cons]; push_cast; omega
theorem findF_step {p : F3} {l : List F3} {k : Nat} (hk : k < l.length) (hb : ∀ j (hj : j < l.length), j < k → l[j] ≠ p) (h : l[k] = p) : findF p l 0 = k := by
  rw [findF_hit hk h (fun j hj => hb j (by omega) hj) 0]; omega
theorem findF_end {p : F3} {l : List F3} (hb : ∀ j (hj : j < l.length), j < l.length → l[j] ≠ p) : findF p l 0 = -1 := by
  refine findF_none (fun hm => ?_) 0
  obtain ⟨j, hj, e⟩ := List.getElem_of_mem hm
  exact hb j hj hj e
/-- Whether a form is in a list. -/
def memF (p : F3) (l : List F3) : Bool := decide (0 ≤ findF p l 0)
theorem memF_iff {p : F3} {l : List F3} : memF p l = true ↔ p ∈ l := by
  unfold memF
  rw [decide_eq_true_eq]
  constructor
  · intro h
    refine Classical.byContradiction fun hn => ?_
    rw [findF_none hn] at h; omega
  · intro h; exact findF_in h (Int.le_refl _)
set_option maxRecDepth 100000 in
set_option maxHeartbeats 2000000 in
theorem indexF_any (A : Option Addr) (cap B : Nat) (l : List F3) (p : F3) (w : World) (hl : l.length ≤ 20000) (h : RowAt w B A l.length (ints (flatF l))) :
    Calls Try.prog 82 #[.slice A l.length cap, (.agg #[.int .i64 p.x, .int .i64 p.y, .int .i64 p.z])] w fun e w' => e = .returned (.int .i64 (findF p l 0)) ∧ Below w.heap.size w w' := by
  have H := Lib.hid h
  clear h
  have HP := Lib.hid (fun q => @eqF p q)
  obtain ⟨R, hR⟩ : ∃ R, findF p l 0 = R := ⟨_, rfl⟩
  have HR := Lib.hid hR
  rw [hR]
  clear hR
  have HH := Lib.hid (fun k hk hb h => @findF_step p l k hk hb h)
  have HN := Lib.hid (@findF_end p l)
  rw [HR.out] at HN
  obtain ⟨x, y, z⟩ := p
  simp only at HP
  go_enter Try.func82, Try.ntmps82
  go_wp2_with fail
  go_loopw [8] (fun i wr => ∃ k : Nat, i = (.int .i64 ((k : Int))) ∧ k ≤ l.length ∧ Hid ((∀ j (hj : j < l.length), j < k → l[j] ≠ ⟨x, y, z⟩) ∧ Blk3 wr w.heap.size 34 x y z) ∧ Below w.heap.size w wr) (fun i _ => l.length - (intOf i).toNat)
  case atStart => exact ⟨0, rfl, Nat.zero_le _, Lib.hid ⟨fun j _ hj => by omega, heap_new⟩, by go_grown⟩
  case round =>
    obtain ⟨k, rfl, hk, HB, hb⟩ := hrel
    obtain ⟨⟨z0, z1, z2⟩, ⟨fz0, fz1, fz2⟩, lz⟩ := HB.out.2.open_
    by_cases hlt : k < l.length
    · obtain ⟨b, rfl, -, hbl, hc, -⟩ := (H.out.below hb) (by omega)
      obtain ⟨hx, hy, hz⟩ := flatF_at hlt
      have h1 := hc _ _ hx
      have h2 := hc _ _ hy
      have h3 := hc _ _ hz
      have HE := Lib.hid (HP.out l[k])
      have HHk := Lib.hid (fun hb h => HH.out k hlt hb h)
      have HBn := Lib.hid (show l[k] ≠ ⟨x, y, z⟩ → ∀ j (hj : j < l.length), j < k + 1 → l[j] ≠ ⟨x, y, z⟩ from fun hne j hj hjk => by
        by_cases e : j = k
        · subst e; exact hne
        · exact HB.out.1 j hj (by omega))
      clear hc hx hy hz
      generalize l[k] = q at *
      by_cases he : q = ⟨x, y, z⟩
      · have hE : (x == q.x && (y == q.y && z == q.z)) = true := by rw [HE.out]; simp [he]
        have HV := Lib.hid (HHk.out HB.out.1 he)
        rw [HR.out] at HV
        have HE2 := Lib.hid he
        clear he
        go_wp2_with fail
        go_quiet (fail)
        go_wp2_with fail
        go_ret
        exact ⟨ret_int HV.out.symm, below_drewN hb _⟩
      · have hE : (x == q.x && (y == q.y && z == q.z)) = false := by rw [HE.out]; simp only [decide_eq_false_iff_not]; exact fun e => he e.symm
        have HE2 := Lib.hid (HBn.out he)
        clear he
        go_wp2_with fail
        go_quiet (fail)
        go_wp2_with fail
        go_roundw
        case rel => exact ⟨k + 1, by go_num, by omega, Lib.hid ⟨HE2.out, heap_drewN HB.out.2⟩, below_drewN hb _⟩
        case measure => simp [intOf]; omega
    · obtain rfl : k = l.length := by omega
      have HV := Lib.hid (HN.out HB.out.1)
      go_wp2_with fail
      go_ret
      exact ⟨ret_int HV.out.symm, hb⟩
theorem containsF_any (A : Option Addr) (cap B : Nat) (l : List F3) (p : F3) (w : World) (hl : l.length ≤ 20000) (h : RowAt w B A l.length (ints (flatF l))) :
    Calls Try.prog 49 #[.slice A l.length cap, (.agg #[.int .i64 p.x, .int .i64 p.y, .int .i64 p.z])] w fun e w' => e = .returned (.bool (memF p l)) ∧ Below w.heap.size w w' := by
  have HI := Lib.hid (fun W hb => indexF_any A cap B l p W hl (h.below hb))
  unfold memF
  obtain ⟨x, y, z⟩ := p
  simp only at *
  generalize findF ⟨x, y, z⟩ l 0 = R at *
  clear h
  go_enter Try.func49, Try.ntmps49
  go_wp2_with fail
  refine (HI.out _ ((Below.refl _ _).alloc (Nat.le_refl _) _)).mono ?_; rintro e w1 ⟨rfl, hb1⟩
  go_wp2_with fail
  go_ret
  exact ⟨by first | rfl | exact ret_bool (by simp), bfin (by go_grown) hb1⟩
theorem isCyclic_any (a b c : Int) (w : World) (h : Small a b c) :
    Calls Try.prog 48 #[(.agg #[.int .i64 a, .int .i64 b, .int .i64 c])] w fun e w' => e = .returned (.bool (cycB a b c)) ∧ Below w.heap.size w w' := by
  have HD := Lib.hid (fun W => disc_any a b c W h)
  rw [show (b * b - 4 * a * c : Int) = disc a b c from rfl] at HD
  have H1 := Lib.hid (fun W => isIndefinite_any a b c W h)
  have H2 := Lib.hid (fun W => isReduced_any a b c W h)
  unfold cycB
  generalize disc a b c = D at *
  generalize indB a b c = i at *
  generalize redB a b c = r at *
  clear h
  by_cases hd : D ≤ 2000
  · rw [decide_eq_true hd]
    cases i
    · skip
      go_enter Try.func48, Try.ntmps48
      go_wp2_with fail
      refine (HD.out _).mono ?_; rintro e w1 ⟨rfl, hb1⟩
      obtain ⟨hc1, hf1⟩ := bcell hb1
      have hz0 : w.heap.size < w1.heap.size := by have := hb1.size; (try simp at this); omega
      go_wp2_with fail
      refine (H1.out _).mono ?_; rintro e w2 ⟨rfl, hb2⟩
      replace hb2 := bstep hb1 hb2
      clear hc1 hf1 hb1
      obtain ⟨hc2, hf2⟩ := bcell hb2
      have hB2 : Below w.heap.size w w2 := bfin (by go_grown) hb2
      go_wp2_with fail
      go_ret
      exact ⟨rfl, by go_grown⟩
    · cases r
      all_goals
        go_enter Try.func48, Try.ntmps48
        go_wp2_with fail
        refine (HD.out _).mono ?_; rintro e w1 ⟨rfl, hb1⟩
        obtain ⟨hc1, hf1⟩ := bcell hb1
        have hz0 : w.heap.size < w1.heap.size := by have := hb1.size; (try simp at this); omega
        go_wp2_with fail
        refine (H1.out _).mono ?_; rintro e w2 ⟨rfl, hb2⟩
        replace hb2 := bstep hb1 hb2
        clear hc1 hf1 hb1
        obtain ⟨hc2, hf2⟩ := bcell hb2
        have hz0 : w.heap.size < w2.heap.size := by have := hb2.size; (try simp at this); omega
        go_wp2_with fail
        refine (H2.out _).mono ?_; rintro e w3 ⟨rfl, hb3⟩
        replace hb3 := bstep hb2 hb3
        clear hc2 hf2 hb2
        obtain ⟨hc3, hf3⟩ := bcell hb3
        have hB3 : Below w.heap.size w w3 := bfin (by go_grown) hb3
        go_wp2_with fail
        go_ret
        exact ⟨rfl, by go_grown⟩
  · rw [decide_eq_false hd]
    go_enter Try.func48, Try.ntmps48
    go_wp2_with fail
    refine (HD.out _).mono ?_; rintro e w1 ⟨rfl, hb1⟩
    obtain ⟨hc1, hf1⟩ := bcell hb1
    have hB1 : Below w.heap.size w w1 := bfin (by go_grown) hb1
    go_wp2_with fail
    go_ret
    exact ⟨rfl, by go_grown⟩
/-- The first form that two equivalent definite forms lead to. -/
theorem equ_def {f g : F3} (h1 : isForm f.x f.y f.z = true) (h2 : isForm g.x g.y g.z = true) (h3 : defB f.x f.y f.z = true) (h4 : defB g.x g.y g.z = true) : equRes f g = (decide ((reduceOf f.x f.y f.z).f = (reduceOf g.x g.y g.z).f), 0) := by
  unfold equRes; rw [if_pos ⟨h1, h2⟩, if_pos ⟨h3, h4⟩]
theorem equ_cyc {f g : F3} (h1 : isForm f.x f.y f.z = true) (h2 : isForm g.x g.y g.z = true) (h3 : ¬ (defB f.x f.y f.z = true ∧ defB g.x g.y g.z = true)) (h4 : cycB f.x f.y f.z = true ∧ cycB g.x g.y g.z = true) : equRes f g = (memF g (cycR f), 0) := by
  unfold equRes; rw [if_pos ⟨h1, h2⟩, if_neg h3, if_pos h4]
  congr 1
  rw [Bool.eq_iff_iff, memF_iff, decide_eq_true_eq]
theorem equ_no {f g : F3} (h1 : isForm f.x f.y f.z = true) (h2 : isForm g.x g.y g.z = true) (h3 : ¬ (defB f.x f.y f.z = true ∧ defB g.x g.y g.z = true)) (h4 : ¬ (cycB f.x f.y f.z = true ∧ cycB g.x g.y g.z = true)) : equRes f g = (false, 5) := by
  unfold equRes; rw [if_pos ⟨h1, h2⟩, if_neg h3, if_neg h4]
theorem equ_bad {f g : F3} (h : ¬ (isForm f.x f.y f.z = true ∧ isForm g.x g.y g.z = true)) : equRes f g = (false, 1) := by
  unfold equRes; rw [if_neg h]
theorem isCyc_cycB {a b c : Int} (h : cycB a b c = true) : IsCyc ⟨a, b, c⟩ := by
  simp only [cycB, Bool.and_eq_true, decide_eq_true_eq] at h
  exact isCyc_of (by omega) h.2.1 h.2.2
set_option maxRecDepth 100000 in
set_option maxHeartbeats 4000000 in
theorem AreEquivalent_any (f g : F3) (w : World) :
    Calls Try.prog 18 #[(.agg #[.int .i64 f.x, .int .i64 f.y, .int .i64 f.z]), (.agg #[.int .i64 g.x, .int .i64 g.y, .int .i64 g.z])] w fun e w' => e = .returned (.tuple #[.bool (equRes f g).1, (.int .i64 ((equRes f g).2))]) ∧ Below w.heap.size w w' := by
  have I1 := Lib.hid (fun W => IsForm_any f.x f.y f.z W)
  have I2 := Lib.hid (fun W => IsForm_any g.x g.y g.z W)
  cases hf : isForm f.x f.y f.z
  · rw [equ_bad (by simp [hf])]
    rw [hf] at I1
    obtain ⟨a, b, c⟩ := f
    obtain ⟨p, q, r⟩ := g
    simp only at *
    go_enter Try.func18, Try.ntmps18
    go_wp2_with fail
    refine (I1.out _).mono ?_; rintro e w1 ⟨rfl, hb1⟩
    obtain ⟨hc1, hf1⟩ := bcell hb1
    have hB1 : Below w.heap.size w w1 := bfin (by go_grown) hb1
    go_wp2_with fail
    go_ret2
    exact ⟨rfl, by go_grown⟩
  cases hg : isForm g.x g.y g.z
  · rw [equ_bad (by simp [hg])]
    rw [hf] at I1
    rw [hg] at I2
    obtain ⟨a, b, c⟩ := f
    obtain ⟨p, q, r⟩ := g
    simp only at *
    go_enter Try.func18, Try.ntmps18
    go_wp2_with fail
    refine (I1.out _).mono ?_; rintro e w1 ⟨rfl, hb1⟩
    obtain ⟨hc1, hf1⟩ := bcell hb1
    obtain ⟨hz0, hz1⟩ : w.heap.size < w1.heap.size ∧ w.heap.size + 1 < w1.heap.size := by have := hb1.size; (try simp at this); omega
    go_wp2_with fail
    refine (I2.out _).mono ?_; rintro e w2 ⟨rfl, hb2⟩
    replace hb2 := bstep hb1 hb2
    clear hc1 hf1 hb1
    obtain ⟨hc2, hf2⟩ := bcell hb2
    have hB2 : Below w.heap.size w w2 := bfin (by go_grown) hb2
    go_wp2_with fail
    go_ret2
    exact ⟨rfl, by go_grown⟩
  have s1 := small_of hf
  have s2 := small_of hg
  have D1 := Lib.hid (fun W => isDefinite_any f.x f.y f.z W s1)
  have D2 := Lib.hid (fun W => isDefinite_any g.x g.y g.z W s2)
  have C1 := Lib.hid (fun W => isCyclic_any f.x f.y f.z W s1)
  have C2 := Lib.hid (fun W => isCyclic_any g.x g.y g.z W s2)
  by_cases hd : defB f.x f.y f.z = true ∧ defB g.x g.y g.z = true
  · rw [equ_def hf hg hd.1 hd.2]
    rw [hf] at I1
    rw [hg] at I2
    rw [hd.1] at D1
    rw [hd.2] at D2
    have k1 : disc f.x f.y f.z < 0 ∧ 0 < f.x := by simpa [defB] using hd.1
    have k2 : disc g.x g.y g.z < 0 ∧ 0 < g.x := by simpa [defB] using hd.2
    have R1 := Lib.hid (fun W => reduce_any f.x f.y f.z W s1 k1.1 k1.2)
    have R2 := Lib.hid (fun W => reduce_any g.x g.y g.z W s2 k2.1 k2.2)
    have HE := Lib.hid (@eqF (reduceOf f.x f.y f.z).f (reduceOf g.x g.y g.z).f)
    rw [← HE.out]
    clear k1 k2 hd C1 C2 HE s1 s2
    generalize reduceOf f.x f.y f.z = F at *
    generalize reduceOf g.x g.y g.z = G at *
    obtain ⟨⟨x, y, z⟩, ⟨m1, m2, m3, m4⟩⟩ := F
    obtain ⟨⟨x', y', z'⟩, ⟨n1, n2, n3, n4⟩⟩ := G
    obtain ⟨a, b, c⟩ := f
    obtain ⟨p, q, r⟩ := g
    simp only at *
    go_enter Try.func18, Try.ntmps18
    go_wp2_with fail
    refine (I1.out _).mono ?_; rintro e w1 ⟨rfl, hb1⟩
    obtain ⟨hc1, hf1⟩ := bcell hb1
    obtain ⟨hz0, hz1⟩ : w.heap.size < w1.heap.size ∧ w.heap.size + 1 < w1.heap.size := by have := hb1.size; (try simp at this); omega
    go_wp2_with fail
    refine (I2.out _).mono ?_; rintro e w2 ⟨rfl, hb2⟩
    replace hb2 := bstep hb1 hb2
    clear hc1 hf1 hb1
    obtain ⟨hc2, hf2⟩ := bcell hb2
    obtain ⟨hz0, hz1⟩ : w.heap.size < w2.heap.size ∧ w.heap.size + 1 < w2.heap.size := by have := hb2.size; (try simp at this); omega
    go_wp2_with fail
    refine (D1.out _).mono ?_; rintro e w3 ⟨rfl, hb3⟩
    replace hb3 := bstep hb2 hb3
    clear hc2 hf2 hb2
    obtain ⟨hc3, hf3⟩ := bcell hb3
    obtain ⟨hz0, hz1⟩ : w.heap.size < w3.heap.size ∧ w.heap.size + 1 < w3.heap.size := by have := hb3.size; (try simp at this); omega
    go_wp2_with fail
    refine (D2.out _).mono ?_; rintro e w4 ⟨rfl, hb4⟩
    replace hb4 := bstep hb3 hb4
    clear hc3 hf3 hb3
    obtain ⟨hc4, hf4⟩ := bcell hb4
    obtain ⟨hz0, hz1⟩ : w.heap.size < w4.heap.size ∧ w.heap.size + 1 < w4.heap.size := by have := hb4.size; (try simp at this); omega
    go_wp2_with fail
    refine (R1.out _).mono ?_; rintro e w5 ⟨rfl, hb5⟩
    replace hb5 := bstep hb4 hb5
    clear hc4 hf4 hb4
    obtain ⟨hc5, hf5⟩ := bcell hb5
    obtain ⟨hz0, hz1⟩ : w.heap.size < w5.heap.size ∧ w.heap.size + 1 < w5.heap.size := by have := hb5.size; (try simp at this); omega
    have hB5 : Below w.heap.size w w5 := bfin (by go_grown) hb5
    go_wp2_with fail
    refine (R2.out _).mono ?_; rintro e w6 ⟨rfl, hb6⟩
    obtain ⟨hc6, hf6⟩ := bcell hb6
    obtain ⟨hz6_0, hz6_1, hz6_2, hz6_3⟩ : w.heap.size < w6.heap.size ∧ w.heap.size + 1 < w6.heap.size ∧ w5.heap.size < w6.heap.size ∧ w5.heap.size + 1 < w6.heap.size := by have := hb6.size; (try simp at this); omega
    have hB6 : Below w.heap.size w w6 := bfin (by go_grown) hb6
    go_wp2_with fail
    go_ret2
    exact ⟨rfl, by go_grown⟩
  · by_cases hc : cycB f.x f.y f.z = true ∧ cycB g.x g.y g.z = true
    · rw [equ_cyc hf hg hd hc]
      have hcy := isCyc_cycB hc.1
      obtain ⟨N, hP⟩ := hcy.period
      have hnl := cycL_len f N
      have hN2 := hP.n2
      rw [cycR_eq hP]
      have HC := Lib.hid (fun W => cycle_any f N W hcy hP)
      have HM := Lib.hid (fun A cap B W h => containsF_any A cap B (cycL f N) g W (by omega) h)
      rw [hnl] at HM
      rw [hf] at I1
      rw [hg] at I2
      rw [hc.1] at C1
      rw [hc.2] at C2
      clear hcy hP hc hnl s1 s2
      generalize memF g (cycL f N) = M at *
      generalize cycL f N = L at *
      cases hd1 : defB f.x f.y f.z
      · rw [hd1] at D1
        clear hd hd1
        obtain ⟨a, b, c⟩ := f
        obtain ⟨p, q, r⟩ := g
        simp only at *
        go_enter Try.func18, Try.ntmps18
        go_wp2_with fail
        refine (I1.out _).mono ?_; rintro e w1 ⟨rfl, hb1⟩
        obtain ⟨hc1, hf1⟩ := bcell hb1
        obtain ⟨hz0, hz1⟩ : w.heap.size < w1.heap.size ∧ w.heap.size + 1 < w1.heap.size := by have := hb1.size; (try simp at this); omega
        go_wp2_with fail
        refine (I2.out _).mono ?_; rintro e w2 ⟨rfl, hb2⟩
        replace hb2 := bstep hb1 hb2
        clear hc1 hf1 hb1
        obtain ⟨hc2, hf2⟩ := bcell hb2
        obtain ⟨hz0, hz1⟩ : w.heap.size < w2.heap.size ∧ w.heap.size + 1 < w2.heap.size := by have := hb2.size; (try simp at this); omega
        go_wp2_with fail
        refine (D1.out _).mono ?_; rintro e w3 ⟨rfl, hb3⟩
        replace hb3 := bstep hb2 hb3
        clear hc2 hf2 hb2
        obtain ⟨hc3, hf3⟩ := bcell hb3
        obtain ⟨hz0, hz1⟩ : w.heap.size < w3.heap.size ∧ w.heap.size + 1 < w3.heap.size := by have := hb3.size; (try simp at this); omega
        go_wp2_with fail
        refine (C1.out _).mono ?_; rintro e w4 ⟨rfl, hb4⟩
        replace hb4 := bstep hb3 hb4
        clear hc3 hf3 hb3
        obtain ⟨hc4, hf4⟩ := bcell hb4
        obtain ⟨hz0, hz1⟩ : w.heap.size < w4.heap.size ∧ w.heap.size + 1 < w4.heap.size := by have := hb4.size; (try simp at this); omega
        go_wp2_with fail
        refine (C2.out _).mono ?_; rintro e w5 ⟨rfl, hb5⟩
        replace hb5 := bstep hb4 hb5
        clear hc4 hf4 hb4
        obtain ⟨hc5, hf5⟩ := bcell hb5
        obtain ⟨hz0, hz1⟩ : w.heap.size < w5.heap.size ∧ w.heap.size + 1 < w5.heap.size := by have := hb5.size; (try simp at this); omega
        go_wp2_with fail
        have hB5 : Below w.heap.size w w5 := bfin (by go_grown) hb5
        have s0 : w5.cell? ⟨w.heap.size, 0, none⟩ = some (.int .i64 a) := by rw [hc5 _ _ (by simp <;> omega)]; go_simp
        have s1 : w5.cell? ⟨w.heap.size, 1, none⟩ = some (.int .i64 b) := by rw [hc5 _ _ (by simp <;> omega)]; go_simp
        have s2 : w5.cell? ⟨w.heap.size, 2, none⟩ = some (.int .i64 c) := by rw [hc5 _ _ (by simp <;> omega)]; go_simp
        have s3 : w5.cell? ⟨w.heap.size + 1, 0, none⟩ = some (.int .i64 p) := by rw [hc5 _ _ (by simp <;> omega)]; go_simp
        have s4 : w5.cell? ⟨w.heap.size + 1, 1, none⟩ = some (.int .i64 q) := by rw [hc5 _ _ (by simp <;> omega)]; go_simp
        have s5 : w5.cell? ⟨w.heap.size + 1, 2, none⟩ = some (.int .i64 r) := by rw [hc5 _ _ (by simp <;> omega)]; go_simp
        clear hc5 hf5
        go_region_held3 (fun w' => w'.cell? ⟨w.heap.size, 0, none⟩ = some (.int .i64 a) ∧ w'.cell? ⟨w.heap.size, 1, none⟩ = some (.int .i64 b) ∧ w'.cell? ⟨w.heap.size, 2, none⟩ = some (.int .i64 c) ∧ w'.cell? ⟨w.heap.size + 1, 0, none⟩ = some (.int .i64 p) ∧ w'.cell? ⟨w.heap.size + 1, 1, none⟩ = some (.int .i64 q) ∧ w'.cell? ⟨w.heap.size + 1, 2, none⟩ = some (.int .i64 r)) (first | exact S3 | exact S2 | go_keep) (first | (go_at_call 31; refine (HC.out _).mono ?_; rintro e w8 ⟨v, rfl, hown, hb8⟩; obtain ⟨hc8, -⟩ := bcell hb8; have S2 : (fun w' => w'.cell? ⟨w.heap.size, 0, none⟩ = some (.int .i64 a) ∧ w'.cell? ⟨w.heap.size, 1, none⟩ = some (.int .i64 b) ∧ w'.cell? ⟨w.heap.size, 2, none⟩ = some (.int .i64 c) ∧ w'.cell? ⟨w.heap.size + 1, 0, none⟩ = some (.int .i64 p) ∧ w'.cell? ⟨w.heap.size + 1, 1, none⟩ = some (.int .i64 q) ∧ w'.cell? ⟨w.heap.size + 1, 2, none⟩ = some (.int .i64 r)) w8 := ⟨(hc8 _ _ (by simpa using hz0)).trans s0, (hc8 _ _ (by simpa using hz0)).trans s1, (hc8 _ _ (by simpa using hz0)).trans s2, (hc8 _ _ (by simpa using hz1)).trans s3, (hc8 _ _ (by simpa using hz1)).trans s4, (hc8 _ _ (by simpa using hz1)).trans s5⟩; obtain ⟨q0, q1, q2, q3, q4, q5⟩ := id S2; clear hc8; obtain ⟨A, cap, rfl, -, -, hat⟩ := own_view hown; have HAt := Lib.hid hat; have HB2 := Lib.hid hb8; clear hown hat hb8) | (go_at_call 49; refine (HM.out _ _ _ _ HAt.out).mono ?_; rintro e w9 ⟨rfl, hb9⟩; obtain ⟨hc9, -⟩ := bcell hb9; have S3 : (fun w' => w'.cell? ⟨w.heap.size, 0, none⟩ = some (.int .i64 a) ∧ w'.cell? ⟨w.heap.size, 1, none⟩ = some (.int .i64 b) ∧ w'.cell? ⟨w.heap.size, 2, none⟩ = some (.int .i64 c) ∧ w'.cell? ⟨w.heap.size + 1, 0, none⟩ = some (.int .i64 p) ∧ w'.cell? ⟨w.heap.size + 1, 1, none⟩ = some (.int .i64 q) ∧ w'.cell? ⟨w.heap.size + 1, 2, none⟩ = some (.int .i64 r)) w9 := ⟨(hc9 _ _ (Nat.lt_of_lt_of_le hz0 HB2.out.size)).trans q0, (hc9 _ _ (Nat.lt_of_lt_of_le hz0 HB2.out.size)).trans q1, (hc9 _ _ (Nat.lt_of_lt_of_le hz0 HB2.out.size)).trans q2, (hc9 _ _ (Nat.lt_of_lt_of_le hz1 HB2.out.size)).trans q3, (hc9 _ _ (Nat.lt_of_lt_of_le hz1 HB2.out.size)).trans q4, (hc9 _ _ (Nat.lt_of_lt_of_le hz1 HB2.out.size)).trans q5⟩; clear hc9; have HB3 := Lib.hid hb9; clear hb9))
        have hBB := fun (h : Below w5.heap.size w5 w8) => hB5.trans (h.mono hB5.size)
        go_wp2_with fail
        go_ret2
        exact ⟨rfl, (hBB ⟨HB2.out.os, HB2.out.tape, HB2.out.output, HB2.out.size, HB2.out.block⟩).trans (HB3.out.mono (Nat.le_trans hB5.size HB2.out.size))⟩
      · have hd2 : defB g.x g.y g.z = false := by cases h : defB g.x g.y g.z; rfl; exact absurd ⟨hd1, h⟩ hd
        rw [hd1] at D1
        rw [hd2] at D2
        clear hd hd1 hd2
        obtain ⟨a, b, c⟩ := f
        obtain ⟨p, q, r⟩ := g
        simp only at *
        go_enter Try.func18, Try.ntmps18
        go_wp2_with fail
        refine (I1.out _).mono ?_; rintro e w1 ⟨rfl, hb1⟩
        obtain ⟨hc1, hf1⟩ := bcell hb1
        obtain ⟨hz0, hz1⟩ : w.heap.size < w1.heap.size ∧ w.heap.size + 1 < w1.heap.size := by have := hb1.size; (try simp at this); omega
        go_wp2_with fail
        refine (I2.out _).mono ?_; rintro e w2 ⟨rfl, hb2⟩
        replace hb2 := bstep hb1 hb2
        clear hc1 hf1 hb1
        obtain ⟨hc2, hf2⟩ := bcell hb2
        obtain ⟨hz0, hz1⟩ : w.heap.size < w2.heap.size ∧ w.heap.size + 1 < w2.heap.size := by have := hb2.size; (try simp at this); omega
        go_wp2_with fail
        refine (D1.out _).mono ?_; rintro e w3 ⟨rfl, hb3⟩
        replace hb3 := bstep hb2 hb3
        clear hc2 hf2 hb2
        obtain ⟨hc3, hf3⟩ := bcell hb3
        obtain ⟨hz0, hz1⟩ : w.heap.size < w3.heap.size ∧ w.heap.size + 1 < w3.heap.size := by have := hb3.size; (try simp at this); omega
        go_wp2_with fail
        refine (D2.out _).mono ?_; rintro e w4 ⟨rfl, hb4⟩
        replace hb4 := bstep hb3 hb4
        clear hc3 hf3 hb3
        obtain ⟨hc4, hf4⟩ := bcell hb4
        obtain ⟨hz0, hz1⟩ : w.heap.size < w4.heap.size ∧ w.heap.size + 1 < w4.heap.size := by have := hb4.size; (try simp at this); omega
        go_wp2_with fail
        refine (C1.out _).mono ?_; rintro e w5 ⟨rfl, hb5⟩
        replace hb5 := bstep hb4 hb5
        clear hc4 hf4 hb4
        obtain ⟨hc5, hf5⟩ := bcell hb5
        obtain ⟨hz0, hz1⟩ : w.heap.size < w5.heap.size ∧ w.heap.size + 1 < w5.heap.size := by have := hb5.size; (try simp at this); omega
        go_wp2_with fail
        refine (C2.out _).mono ?_; rintro e w6 ⟨rfl, hb6⟩
        replace hb6 := bstep hb5 hb6
        clear hc5 hf5 hb5
        obtain ⟨hc6, hf6⟩ := bcell hb6
        obtain ⟨hz0, hz1⟩ : w.heap.size < w6.heap.size ∧ w.heap.size + 1 < w6.heap.size := by have := hb6.size; (try simp at this); omega
        go_wp2_with fail
        have hB6 : Below w.heap.size w w6 := bfin (by go_grown) hb6
        have s0 : w6.cell? ⟨w.heap.size, 0, none⟩ = some (.int .i64 a) := by rw [hc6 _ _ (by simp <;> omega)]; go_simp
        have s1 : w6.cell? ⟨w.heap.size, 1, none⟩ = some (.int .i64 b) := by rw [hc6 _ _ (by simp <;> omega)]; go_simp
        have s2 : w6.cell? ⟨w.heap.size, 2, none⟩ = some (.int .i64 c) := by rw [hc6 _ _ (by simp <;> omega)]; go_simp
        have s3 : w6.cell? ⟨w.heap.size + 1, 0, none⟩ = some (.int .i64 p) := by rw [hc6 _ _ (by simp <;> omega)]; go_simp
        have s4 : w6.cell? ⟨w.heap.size + 1, 1, none⟩ = some (.int .i64 q) := by rw [hc6 _ _ (by simp <;> omega)]; go_simp
        have s5 : w6.cell? ⟨w.heap.size + 1, 2, none⟩ = some (.int .i64 r) := by rw [hc6 _ _ (by simp <;> omega)]; go_simp
        clear hc6 hf6
        go_region_held3 (fun w' => w'.cell? ⟨w.heap.size, 0, none⟩ = some (.int .i64 a) ∧ w'.cell? ⟨w.heap.size, 1, none⟩ = some (.int .i64 b) ∧ w'.cell? ⟨w.heap.size, 2, none⟩ = some (.int .i64 c) ∧ w'.cell? ⟨w.heap.size + 1, 0, none⟩ = some (.int .i64 p) ∧ w'.cell? ⟨w.heap.size + 1, 1, none⟩ = some (.int .i64 q) ∧ w'.cell? ⟨w.heap.size + 1, 2, none⟩ = some (.int .i64 r)) (first | exact S3 | exact S2 | go_keep) (first | (go_at_call 31; refine (HC.out _).mono ?_; rintro e w8 ⟨v, rfl, hown, hb8⟩; obtain ⟨hc8, -⟩ := bcell hb8; have S2 : (fun w' => w'.cell? ⟨w.heap.size, 0, none⟩ = some (.int .i64 a) ∧ w'.cell? ⟨w.heap.size, 1, none⟩ = some (.int .i64 b) ∧ w'.cell? ⟨w.heap.size, 2, none⟩ = some (.int .i64 c) ∧ w'.cell? ⟨w.heap.size + 1, 0, none⟩ = some (.int .i64 p) ∧ w'.cell? ⟨w.heap.size + 1, 1, none⟩ = some (.int .i64 q) ∧ w'.cell? ⟨w.heap.size + 1, 2, none⟩ = some (.int .i64 r)) w8 := ⟨(hc8 _ _ (by simpa using hz0)).trans s0, (hc8 _ _ (by simpa using hz0)).trans s1, (hc8 _ _ (by simpa using hz0)).trans s2, (hc8 _ _ (by simpa using hz1)).trans s3, (hc8 _ _ (by simpa using hz1)).trans s4, (hc8 _ _ (by simpa using hz1)).trans s5⟩; obtain ⟨q0, q1, q2, q3, q4, q5⟩ := id S2; clear hc8; obtain ⟨A, cap, rfl, -, -, hat⟩ := own_view hown; have HAt := Lib.hid hat; have HB2 := Lib.hid hb8; clear hown hat hb8) | (go_at_call 49; refine (HM.out _ _ _ _ HAt.out).mono ?_; rintro e w9 ⟨rfl, hb9⟩; obtain ⟨hc9, -⟩ := bcell hb9; have S3 : (fun w' => w'.cell? ⟨w.heap.size, 0, none⟩ = some (.int .i64 a) ∧ w'.cell? ⟨w.heap.size, 1, none⟩ = some (.int .i64 b) ∧ w'.cell? ⟨w.heap.size, 2, none⟩ = some (.int .i64 c) ∧ w'.cell? ⟨w.heap.size + 1, 0, none⟩ = some (.int .i64 p) ∧ w'.cell? ⟨w.heap.size + 1, 1, none⟩ = some (.int .i64 q) ∧ w'.cell? ⟨w.heap.size + 1, 2, none⟩ = some (.int .i64 r)) w9 := ⟨(hc9 _ _ (Nat.lt_of_lt_of_le hz0 HB2.out.size)).trans q0, (hc9 _ _ (Nat.lt_of_lt_of_le hz0 HB2.out.size)).trans q1, (hc9 _ _ (Nat.lt_of_lt_of_le hz0 HB2.out.size)).trans q2, (hc9 _ _ (Nat.lt_of_lt_of_le hz1 HB2.out.size)).trans q3, (hc9 _ _ (Nat.lt_of_lt_of_le hz1 HB2.out.size)).trans q4, (hc9 _ _ (Nat.lt_of_lt_of_le hz1 HB2.out.size)).trans q5⟩; clear hc9; have HB3 := Lib.hid hb9; clear hb9))
        have hBB := fun (h : Below w6.heap.size w6 w8) => hB6.trans (h.mono hB6.size)
        go_wp2_with fail
        go_ret2
        exact ⟨rfl, (hBB ⟨HB2.out.os, HB2.out.tape, HB2.out.output, HB2.out.size, HB2.out.block⟩).trans (HB3.out.mono (Nat.le_trans hB6.size HB2.out.size))⟩
    · rw [equ_no hf hg hd hc]
      rw [hf] at I1
      rw [hg] at I2
      clear s1 s2
      cases hd1 : defB f.x f.y f.z
      · rw [hd1] at D1
        clear hd hd1
        cases hc1 : cycB f.x f.y f.z
        · rw [hc1] at C1
          clear hc hc1
          obtain ⟨a, b, c⟩ := f
          obtain ⟨p, q, r⟩ := g
          simp only at *
          go_enter Try.func18, Try.ntmps18
          go_wp2_with fail
          refine (I1.out _).mono ?_; rintro e w1 ⟨rfl, hb1⟩
          obtain ⟨hc1, hf1⟩ := bcell hb1
          obtain ⟨hz0, hz1⟩ : w.heap.size < w1.heap.size ∧ w.heap.size + 1 < w1.heap.size := by have := hb1.size; (try simp at this); omega
          go_wp2_with fail
          refine (I2.out _).mono ?_; rintro e w2 ⟨rfl, hb2⟩
          replace hb2 := bstep hb1 hb2
          clear hc1 hf1 hb1
          obtain ⟨hc2, hf2⟩ := bcell hb2
          obtain ⟨hz0, hz1⟩ : w.heap.size < w2.heap.size ∧ w.heap.size + 1 < w2.heap.size := by have := hb2.size; (try simp at this); omega
          go_wp2_with fail
          refine (D1.out _).mono ?_; rintro e w3 ⟨rfl, hb3⟩
          replace hb3 := bstep hb2 hb3
          clear hc2 hf2 hb2
          obtain ⟨hc3, hf3⟩ := bcell hb3
          obtain ⟨hz0, hz1⟩ : w.heap.size < w3.heap.size ∧ w.heap.size + 1 < w3.heap.size := by have := hb3.size; (try simp at this); omega
          go_wp2_with fail
          refine (C1.out _).mono ?_; rintro e w4 ⟨rfl, hb4⟩
          replace hb4 := bstep hb3 hb4
          clear hc3 hf3 hb3
          obtain ⟨hc4, hf4⟩ := bcell hb4
          have hB4 : Below w.heap.size w w4 := bfin (by go_grown) hb4
          go_wp2_with fail
          go_ret2
          exact ⟨rfl, by go_grown⟩
        · have hc2 : cycB g.x g.y g.z = false := by cases h : cycB g.x g.y g.z; rfl; exact absurd ⟨hc1, h⟩ hc
          rw [hc1] at C1
          rw [hc2] at C2
          clear hc hc1 hc2
          obtain ⟨a, b, c⟩ := f
          obtain ⟨p, q, r⟩ := g
          simp only at *
          go_enter Try.func18, Try.ntmps18
          go_wp2_with fail
          refine (I1.out _).mono ?_; rintro e w1 ⟨rfl, hb1⟩
          obtain ⟨hc1, hf1⟩ := bcell hb1
          obtain ⟨hz0, hz1⟩ : w.heap.size < w1.heap.size ∧ w.heap.size + 1 < w1.heap.size := by have := hb1.size; (try simp at this); omega
          go_wp2_with fail
          refine (I2.out _).mono ?_; rintro e w2 ⟨rfl, hb2⟩
          replace hb2 := bstep hb1 hb2
          clear hc1 hf1 hb1
          obtain ⟨hc2, hf2⟩ := bcell hb2
          obtain ⟨hz0, hz1⟩ : w.heap.size < w2.heap.size ∧ w.heap.size + 1 < w2.heap.size := by have := hb2.size; (try simp at this); omega
          go_wp2_with fail
          refine (D1.out _).mono ?_; rintro e w3 ⟨rfl, hb3⟩
          replace hb3 := bstep hb2 hb3
          clear hc2 hf2 hb2
          obtain ⟨hc3, hf3⟩ := bcell hb3
          obtain ⟨hz0, hz1⟩ : w.heap.size < w3.heap.size ∧ w.heap.size + 1 < w3.heap.size := by have := hb3.size; (try simp at this); omega
          go_wp2_with fail
          refine (C1.out _).mono ?_; rintro e w4 ⟨rfl, hb4⟩
          replace hb4 := bstep hb3 hb4
          clear hc3 hf3 hb3
          obtain ⟨hc4, hf4⟩ := bcell hb4
          obtain ⟨hz0, hz1⟩ : w.heap.size < w4.heap.size ∧ w.heap.size + 1 < w4.heap.size := by have := hb4.size; (try simp at this); omega
          go_wp2_with fail
          refine (C2.out _).mono ?_; rintro e w5 ⟨rfl, hb5⟩
          replace hb5 := bstep hb4 hb5
          clear hc4 hf4 hb4
          obtain ⟨hc5, hf5⟩ := bcell hb5
          have hB5 : Below w.heap.size w w5 := bfin (by go_grown) hb5
          go_wp2_with fail
          go_ret2
          exact ⟨rfl, by go_grown⟩
      · have hd2 : defB g.x g.y g.z = false := by cases h : defB g.x g.y g.z; rfl; exact absurd ⟨hd1, h⟩ hd
        rw [hd1] at D1
        rw [hd2] at D2
        clear hd hd1 hd2
        cases hc1 : cycB f.x f.y f.z
        · rw [hc1] at C1
          clear hc hc1
          obtain ⟨a, b, c⟩ := f
          obtain ⟨p, q, r⟩ := g
          simp only at *
          go_enter Try.func18, Try.ntmps18
          go_wp2_with fail
          refine (I1.out _).mono ?_; rintro e w1 ⟨rfl, hb1⟩
          obtain ⟨hc1, hf1⟩ := bcell hb1
          obtain ⟨hz0, hz1⟩ : w.heap.size < w1.heap.size ∧ w.heap.size + 1 < w1.heap.size := by have := hb1.size; (try simp at this); omega
          go_wp2_with fail
          refine (I2.out _).mono ?_; rintro e w2 ⟨rfl, hb2⟩
          replace hb2 := bstep hb1 hb2
          clear hc1 hf1 hb1
          obtain ⟨hc2, hf2⟩ := bcell hb2
          obtain ⟨hz0, hz1⟩ : w.heap.size < w2.heap.size ∧ w.heap.size + 1 < w2.heap.size := by have := hb2.size; (try simp at this); omega
          go_wp2_with fail
          refine (D1.out _).mono ?_; rintro e w3 ⟨rfl, hb3⟩
          replace hb3 := bstep hb2 hb3
          clear hc2 hf2 hb2
          obtain ⟨hc3, hf3⟩ := bcell hb3
          obtain ⟨hz0, hz1⟩ : w.heap.size < w3.heap.size ∧ w.heap.size + 1 < w3.heap.size := by have := hb3.size; (try simp at this); omega
          go_wp2_with fail
          refine (D2.out _).mono ?_; rintro e w4 ⟨rfl, hb4⟩
          replace hb4 := bstep hb3 hb4
          clear hc3 hf3 hb3
          obtain ⟨hc4, hf4⟩ := bcell hb4
          obtain ⟨hz0, hz1⟩ : w.heap.size < w4.heap.size ∧ w.heap.size + 1 < w4.heap.size := by have := hb4.size; (try simp at this); omega
          go_wp2_with fail
          refine (C1.out _).mono ?_; rintro e w5 ⟨rfl, hb5⟩
          replace hb5 := bstep hb4 hb5
          clear hc4 hf4 hb4
          obtain ⟨hc5, hf5⟩ := bcell hb5
          have hB5 : Below w.heap.size w w5 := bfin (by go_grown) hb5
          go_wp2_with fail
          go_ret2
          exact ⟨rfl, by go_grown⟩
        · have hc2 : cycB g.x g.y g.z = false := by cases h : cycB g.x g.y g.z; rfl; exact absurd ⟨hc1, h⟩ hc
          rw [hc1] at C1
          rw [hc2] at C2
          clear hc hc1 hc2
          obtain ⟨a, b, c⟩ := f
          obtain ⟨p, q, r⟩ := g
          simp only at *
          go_enter Try.func18, Try.ntmps18
          go_wp2_with fail
          refine (I1.out _).mono ?_; rintro e w1 ⟨rfl, hb1⟩
          obtain ⟨hc1, hf1⟩ := bcell hb1
          obtain ⟨hz0, hz1⟩ : w.heap.size < w1.heap.size ∧ w.heap.size + 1 < w1.heap.size := by have := hb1.size; (try simp at this); omega
          go_wp2_with fail
          refine (I2.out _).mono ?_; rintro e w2 ⟨rfl, hb2⟩
          replace hb2 := bstep hb1 hb2
          clear hc1 hf1 hb1
          obtain ⟨hc2, hf2⟩ := bcell hb2
          obtain ⟨hz0, hz1⟩ : w.heap.size < w2.heap.size ∧ w.heap.size + 1 < w2.heap.size := by have := hb2.size; (try simp at this); omega
          go_wp2_with fail
          refine (D1.out _).mono ?_; rintro e w3 ⟨rfl, hb3⟩
          replace hb3 := bstep hb2 hb3
          clear hc2 hf2 hb2
          obtain ⟨hc3, hf3⟩ := bcell hb3
          obtain ⟨hz0, hz1⟩ : w.heap.size < w3.heap.size ∧ w.heap.size + 1 < w3.heap.size := by have := hb3.size; (try simp at this); omega
          go_wp2_with fail
          refine (D2.out _).mono ?_; rintro e w4 ⟨rfl, hb4⟩
          replace hb4 := bstep hb3 hb4
          clear hc3 hf3 hb3
          obtain ⟨hc4, hf4⟩ := bcell hb4
          obtain ⟨hz0, hz1⟩ : w.heap.size < w4.heap.size ∧ w.heap.size + 1 < w4.heap.size := by have := hb4.size; (try simp at this); omega
          go_wp2_with fail
          refine (C1.out _).mono ?_; rintro e w5 ⟨rfl, hb5⟩
          replace hb5 := bstep hb4 hb5
          clear hc4 hf4 hb4
          obtain ⟨hc5, hf5⟩ := bcell hb5
          obtain ⟨hz0, hz1⟩ : w.heap.size < w5.heap.size ∧ w.heap.size + 1 < w5.heap.size := by have := hb5.size; (try simp at this); omega
          go_wp2_with fail
          refine (C2.out _).mono ?_; rintro e w6 ⟨rfl, hb6⟩
          replace hb6 := bstep hb5 hb6
          clear hc5 hf5 hb5
          obtain ⟨hc6, hf6⟩ := bcell hb6
          have hB6 : Below w.heap.size w w6 := bfin (by go_grown) hb6
          go_wp2_with fail
          go_ret2
          exact ⟨rfl, by go_grown⟩
end Go.Proofs.Ytcaiofhdcffogaa
