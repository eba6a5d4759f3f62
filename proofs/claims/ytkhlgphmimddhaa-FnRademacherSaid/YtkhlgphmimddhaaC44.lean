/- Contracts: the gap of a product, the program's own; the law. -/
import Derived.Test.YtkhlgphmimddhaaC39
namespace Go.Proofs.Ytkhlgphmimddhaa
open Go.RowKit
def fv (m : M4) : Int := (firstRes m.p m.q m.r m.s).1
def fc (m : M4) : Int := (firstRes m.p m.q m.r m.s).2
theorem fv_bd {m : M4} (h : isMatM m = true) : -1000000000000000000 ≤ fv m ∧ fv m ≤ 1000000000000000000 := by
  unfold fv firstRes
  split
  · simp
  · exact firstV_bd (isMat_iff.1 h) (by omega)
theorem fc_small {m : M4} : (fc m = 0 ∧ smallC m = true ∧ fv m = firstM m) ∨ (fc m = 3 ∧ smallC m = false) := by
  unfold fc fv firstRes smallC firstM
  by_cases h : 20000 < (m.r.natAbs : Int)
  · right; rw [if_pos h]; exact ⟨rfl, by simp; omega⟩
  · left; rw [if_neg h]; exact ⟨rfl, by simp; omega, rfl⟩
theorem firstNumberM_any (m : M4) (w : World) (h : isMatM m = true) :
    Calls Try.prog 78 #[(.agg #[.int .i64 m.p, .int .i64 m.q, .int .i64 m.r, .int .i64 m.s])] w fun e w' => e = .returned (.tuple #[(.int .i64 (fv m)), (.int .i64 (fc m))]) ∧ Below w.heap.size w w' := firstNumber_any m.p m.q m.r m.s w (isMat_iff.1 h)
theorem gap_bad {m n P : M4} (hM : isMatM m = true) (hN : isMatM n = true) (hP : mulM m n = P) (h : fc P ≠ 0 ∨ fc m ≠ 0 ∨ fc n ≠ 0) : gapRes m n = (0, 3) := by
  have : (entQ (mulM m n) && (smallC (mulM m n) && (smallC m && smallC n))) = false := by
    rw [hP]
    rcases h with h | h | h
    · rcases @fc_small P with ⟨h2, _⟩ | ⟨_, h2⟩
      · exact absurd h2 h
      · simp [h2]
    · rcases @fc_small m with ⟨h2, _⟩ | ⟨_, h2⟩
      · exact absurd h2 h
      · simp [h2]
    · rcases @fc_small n with ⟨h2, _⟩ | ⟨_, h2⟩
      · exact absurd h2 h
      · simp [h2]
  unfold gapRes
  rw [hM, hN, this]; simp
theorem gap_good {m n P : M4} (hM : isMatM m = true) (hN : isMatM n = true) (hP : mulM m n = P) (hE : entQ P = true) (h0 : fc P = 0) (h1 : fc m = 0) (h2 : fc n = 0) : gapRes m n = (fv P - fv m - fv n, 0) := by
  rcases @fc_small P with ⟨_, a0, b0⟩ | ⟨h, _⟩
  · rcases @fc_small m with ⟨_, a1, b1⟩ | ⟨h, _⟩
    · rcases @fc_small n with ⟨_, a2, b2⟩ | ⟨h, _⟩
      · unfold gapRes; rw [hM, hN, hP, hE, a0, a1, a2, b0, b1, b2]; simp
      · omega
    · omega
  · omega
theorem cells2 {w : World} {bk : Nat} {m n : M4} (h : Cells8 w bk m.p m.q m.r m.s n.p n.q n.r n.s) : ∀ k x, [m, n][k]? = some x → CellsM w bk k x := by
  intro k x hk
  match k with
  | 0 => simp at hk; subst hk; exact ⟨h.h0, h.h1, h.h2, h.h3⟩
  | 1 => simp at hk; subst hk; exact ⟨h.h4, h.h5, h.h6, h.h7⟩
  | k + 2 => simp at hk
theorem idx3M0 (a0 a1 a2 a3 b0 b1 b2 b3 c0 c1 c2 c3 : Value) (w : World) : (Instr.index 80 (.agg #[a0, a1, a2, a3, b0, b1, b2, b3, c0, c1, c2, c3]) (.int .i64 0)).run Try.prog w = .ok (.agg #[a0, a1, a2, a3]) w := by kernel_rfl
theorem idx3M1 (a0 a1 a2 a3 b0 b1 b2 b3 c0 c1 c2 c3 : Value) (w : World) : (Instr.index 80 (.agg #[a0, a1, a2, a3, b0, b1, b2, b3, c0, c1, c2, c3]) (.int .i64 1)).run Try.prog w = .ok (.agg #[b0, b1, b2, b3]) w := by kernel_rfl
theorem idx3M2 (a0 a1 a2 a3 b0 b1 b2 b3 c0 c1 c2 c3 : Value) (w : World) : (Instr.index 80 (.agg #[a0, a1, a2, a3, b0, b1, b2, b3, c0, c1, c2, c3]) (.int .i64 2)).run Try.prog w = .ok (.agg #[c0, c1, c2, c3]) w := by kernel_rfl
attribute [local go_sem] idx3M0 idx3M1 idx3M2
theorem ret_gap {g1 g2 x y : Int} (h : ((g1, g2) : Int × Int) = (x, y)) : Ending.returned (.tuple #[(.int .i64 x), (.int .i64 y)]) = .returned (.tuple #[(.int .i64 g1), (.int .i64 g2)]) := by
  injection h with h1 h2; rw [h1, h2]
theorem fc_three {m : M4} (h : fc m ≠ 0) : fc m = 3 := by
  rcases @fc_small m with ⟨h2, _⟩ | ⟨h2, _⟩
  · exact absurd h2 h
  · exact h2
/-- The program's numbers after k rounds. -/
def nx (j k : Nat) (v : Int) : Int := if j < k then v else 0
set_option maxRecDepth 100000 in
set_option maxHeartbeats 4000000 in
theorem iGap_ok (m n P : M4) (w : World) (hM : isMatM m = true) (hN : isMatM n = true) (hP : mulM m n = P) (hE : entQ P = true) :
    Calls Try.prog 40 #[(.agg #[.int .i64 m.p, .int .i64 m.q, .int .i64 m.r, .int .i64 m.s]), (.agg #[.int .i64 n.p, .int .i64 n.q, .int .i64 n.r, .int .i64 n.s])] w fun e w' => e = .returned (.tuple #[(.int .i64 ((gapRes m n).1)), (.int .i64 ((gapRes m n).2))]) ∧ Below w.heap.size w w' := by
  have hPm : isMatM P = true := isMat_iff.2 (by have := mulM_mat (isMat_iff.1 hM) (isMat_iff.1 hN) (by rw [hP]; exact hE); rwa [hP] at this)
  have HBad := Lib.hid (@gap_bad m n P hM hN hP)
  have HGood := Lib.hid (@gap_good m n P hM hN hP hE)
  have K0 := Lib.hid (fun W => firstNumberM_any P W hPm)
  have K1 := Lib.hid (fun W => firstNumberM_any m W hM)
  have K2 := Lib.hid (fun W => firstNumberM_any n W hN)
  obtain ⟨b10, b11⟩ := fv_bd hM
  obtain ⟨b20, b21⟩ := fv_bd hN
  obtain ⟨b30, b31⟩ := fv_bd hPm
  have HA := Lib.hid (fun bk W hc => areMatrices_2 bk m.p m.q m.r m.s n.p n.q n.r n.s W hc)
  rw [show (isMat m.p m.q m.r m.s && isMat n.p n.q n.r n.s) = true by rw [show isMat m.p m.q m.r m.s = true from hM, show isMat n.p n.q n.r n.s = true from hN]; rfl] at HA
  have HQ := Lib.hid (fun bk W hlt hc => product_any bk 2 2 [m, n] W rfl (by omega) hlt (cells2 hc) (by intro x hx; simp at hx; rcases hx with rfl | rfl; exact entM_mat (isMat_iff.1 hM); exact entM_mat (isMat_iff.1 hN)))
  rw [show prodV (prodF [m, n] ⟨1, 0, 0, 1⟩) = .tuple #[(.agg #[.int .i64 P.p, .int .i64 P.q, .int .i64 P.r, .int .i64 P.s]), (.int .i64 0)] by rw [prodF_2 (isMat_iff.1 hM), hP, hE]; rfl] at HQ
  have HThree0 := Lib.hid (@fc_three P)
  have HThree1 := Lib.hid (@fc_three m)
  have HThree2 := Lib.hid (@fc_three n)
  generalize gapRes m n = G at *
  generalize fv P = v0 at *
  generalize fv m = v1 at *
  generalize fv n = v2 at *
  generalize fc P = c0 at *
  generalize fc m = c1 at *
  generalize fc n = c2 at *
  clear hM hN hP hE hPm
  obtain ⟨a, b, c, d⟩ := m
  obtain ⟨a', b', c', d'⟩ := n
  obtain ⟨p, q, r, s⟩ := P
  obtain ⟨g1, g2⟩ := G
  simp only at HA HQ K0 K1 K2 ⊢
  go_enter Try.func40, Try.ntmps40
  go_wp2_with fail
  refine (HA.out _ _ ⟨by go_simp, by go_simp, by go_simp, by go_simp, by go_simp, by go_simp, by go_simp, by go_simp, by simp⟩).mono ?_; rintro e w1 ⟨rfl, hb1⟩
  obtain ⟨hc1, hf1⟩ := bcell hb1
  have hB1 : Below w.heap.size w w1 := bfin (by go_grown) hb1
  have hs1 := hb1.size
  simp at hs1
  go_wp2_with fail
  refine (HQ.out _ _ (by simp) ⟨by go_simp, by go_simp, by go_simp, by go_simp, by go_simp, by go_simp, by go_simp, by go_simp, by simp⟩).mono ?_; rintro e w2 ⟨rfl, hb2⟩
  obtain ⟨hc2, hf2⟩ := bcell hb2
  have hs2 := hb2.size
  simp at hs2
  have hy0 : w.heap.size < w1.heap.size := by omega
  have hy1 : w.heap.size + 1 < w1.heap.size := by omega
  have hz0 : w.heap.size < w2.heap.size := by omega
  have hz1 : w.heap.size + 1 < w2.heap.size := by omega
  have hB2 : Below w.heap.size w w2 := bfin (by go_grown) hb2
  have HN0 := Lib.hid (heap_new' (w := w2.alloc (.cells #[(.int .i64 p), (.int .i64 q), (.int .i64 r), (.int .i64 s)] 36)) (p := .cells #[(.int .i64 0), (.int .i64 0), (.int .i64 0)] 79) (b := w2.heap.size + 1) (by simp))
  have hB3 : Below w.heap.size w ((w2.alloc (.cells #[(.int .i64 p), (.int .i64 q), (.int .i64 r), (.int .i64 s)] 36)).alloc (.cells #[(.int .i64 0), (.int .i64 0), (.int .i64 0)] 79)) := (hB2.alloc hB2.size _).alloc (by have := hB2.size; simp; omega) _
  clear hb2 hb1
  go_wp2_with fail
  go_loopw [31] (fun i wr => ∃ k : Nat, i = (.int .i64 ((k : Int))) ∧ k ≤ 3 ∧ Hid ((0 < k → c0 = 0) ∧ (1 < k → c1 = 0) ∧ (2 < k → c2 = 0) ∧ Blk3 wr (w2.heap.size + 1) 79 (nx 0 k v0) (nx 1 k v1) (nx 2 k v2)) ∧ Below w.heap.size w wr) (fun i _ => 3 - (intOf i).toNat)
  case atStart => exact ⟨0, rfl, Nat.zero_le _, Lib.hid ⟨by simp, by simp, by simp, HN0.out⟩, hB3⟩
  case round =>
    obtain ⟨k, rfl, hk, HP, hb⟩ := hrel
    rcases (show k = 0 ∨ k = 1 ∨ k = 2 ∨ k = 3 by omega) with rfl | rfl | rfl | rfl
    · by_cases hz : c0 = 0
      · have HZ := Lib.hid hz
        have HK := Lib.hid (fun W => K0.out W)
        rw [hz] at HK
        clear hz
        have HV := Lib.hid (show nx 0 0 v0 = nx 0 0 v0 from rfl)
        obtain ⟨⟨z0, z1, z2⟩, ⟨f0, f1, f2⟩, hl2⟩ := Blk3.open_ HP.out.2.2.2
        go_wp2_with fail
        refine (HK.out _).mono ?_; rintro e w3 ⟨rfl, hb3⟩
        have hB4 : Below w.heap.size w w3 := (hb.alloc hb.size _).trans (hb3.mono (by have := hb.size; simp; omega))
        have HH3 := Lib.hid (heap_below (heap_alloc (p := .cells #[(.int .i64 p), (.int .i64 q), (.int .i64 r), (.int .i64 s)] 36) HP.out.2.2.2) hb3)
        obtain ⟨⟨x0, x1, x2⟩, ⟨y0, y1, y2⟩, hl3⟩ := Blk3.open_ HH3.out
        obtain ⟨hc3, hf3⟩ := bcell hb3
        have hs3 := hB4.size
        have hs5 := hB2.size
        go_wp2_with fail
        go_roundw
        case rel => exact ⟨1, by go_num, by omega, Lib.hid ⟨fun _ => HZ.out, fun h => absurd h (by omega), fun h => absurd h (by omega), by have hh := heap_set_same (o := 0) (v := (.int .i64 v0)) HH3.out; unfold Blk3; rw [hh]; simp [nx]⟩, by go_grown⟩
        case measure => simp [intOf]
      · have HG := Lib.hid (HBad.out (.inl hz))
        have HC3 := Lib.hid (HThree0.out hz)
        have HK := Lib.hid (fun W => K0.out W)
        obtain ⟨⟨z0, z1, z2⟩, ⟨f0, f1, f2⟩, hl2⟩ := Blk3.open_ HP.out.2.2.2
        rw [HC3.out] at HK
        clear hz
        go_wp2_with fail
        refine (HK.out _).mono ?_; rintro e w3 ⟨rfl, hb3⟩
        have hB4 : Below w.heap.size w w3 := (hb.alloc hb.size _).trans (hb3.mono (by have := hb.size; simp; omega))
        have HH3 := Lib.hid (heap_below (heap_alloc (p := .cells #[(.int .i64 p), (.int .i64 q), (.int .i64 r), (.int .i64 s)] 36) HP.out.2.2.2) hb3)
        obtain ⟨⟨x0, x1, x2⟩, ⟨y0, y1, y2⟩, hl3⟩ := Blk3.open_ HH3.out
        have hs3 := hB4.size
        have hs5 := hB2.size
        go_wp2_with fail
        go_ret2
        exact ⟨ret_gap HG.out, by go_grown⟩
    · by_cases hz : c1 = 0
      · have HZ := Lib.hid hz
        have HK := Lib.hid (fun W => K1.out W)
        rw [hz] at HK
        clear hz
        have HV := Lib.hid (show nx 0 1 v0 = nx 0 1 v0 from rfl)
        obtain ⟨⟨z0, z1, z2⟩, ⟨f0, f1, f2⟩, hl2⟩ := Blk3.open_ HP.out.2.2.2
        go_wp2_with fail
        refine (HK.out _).mono ?_; rintro e w3 ⟨rfl, hb3⟩
        have hB4 : Below w.heap.size w w3 := (hb.alloc hb.size _).trans (hb3.mono (by have := hb.size; simp; omega))
        have HH3 := Lib.hid (heap_below (heap_alloc (p := .cells #[(.int .i64 a), (.int .i64 b), (.int .i64 c), (.int .i64 d)] 36) HP.out.2.2.2) hb3)
        obtain ⟨⟨x0, x1, x2⟩, ⟨y0, y1, y2⟩, hl3⟩ := Blk3.open_ HH3.out
        obtain ⟨hc3, hf3⟩ := bcell hb3
        have hs3 := hB4.size
        have hs5 := hB2.size
        go_wp2_with fail
        go_roundw
        case rel => exact ⟨2, by go_num, by omega, Lib.hid ⟨fun _ => HP.out.1 (by omega), fun _ => HZ.out, fun h => absurd h (by omega), by have hh := heap_set_same (o := 1) (v := (.int .i64 v1)) HH3.out; unfold Blk3; rw [hh]; simp [nx]⟩, by go_grown⟩
        case measure => simp [intOf]
      · have HG := Lib.hid (HBad.out (.inr (.inl hz)))
        have HC3 := Lib.hid (HThree1.out hz)
        have HK := Lib.hid (fun W => K1.out W)
        obtain ⟨⟨z0, z1, z2⟩, ⟨f0, f1, f2⟩, hl2⟩ := Blk3.open_ HP.out.2.2.2
        rw [HC3.out] at HK
        clear hz
        go_wp2_with fail
        refine (HK.out _).mono ?_; rintro e w3 ⟨rfl, hb3⟩
        have hB4 : Below w.heap.size w w3 := (hb.alloc hb.size _).trans (hb3.mono (by have := hb.size; simp; omega))
        have HH3 := Lib.hid (heap_below (heap_alloc (p := .cells #[(.int .i64 a), (.int .i64 b), (.int .i64 c), (.int .i64 d)] 36) HP.out.2.2.2) hb3)
        obtain ⟨⟨x0, x1, x2⟩, ⟨y0, y1, y2⟩, hl3⟩ := Blk3.open_ HH3.out
        have hs3 := hB4.size
        have hs5 := hB2.size
        go_wp2_with fail
        go_ret2
        exact ⟨ret_gap HG.out, by go_grown⟩
    · by_cases hz : c2 = 0
      · have HZ := Lib.hid hz
        have HK := Lib.hid (fun W => K2.out W)
        rw [hz] at HK
        clear hz
        have HV := Lib.hid (show nx 0 2 v0 = nx 0 2 v0 from rfl)
        obtain ⟨⟨z0, z1, z2⟩, ⟨f0, f1, f2⟩, hl2⟩ := Blk3.open_ HP.out.2.2.2
        go_wp2_with fail
        refine (HK.out _).mono ?_; rintro e w3 ⟨rfl, hb3⟩
        have hB4 : Below w.heap.size w w3 := (hb.alloc hb.size _).trans (hb3.mono (by have := hb.size; simp; omega))
        have HH3 := Lib.hid (heap_below (heap_alloc (p := .cells #[(.int .i64 a'), (.int .i64 b'), (.int .i64 c'), (.int .i64 d')] 36) HP.out.2.2.2) hb3)
        obtain ⟨⟨x0, x1, x2⟩, ⟨y0, y1, y2⟩, hl3⟩ := Blk3.open_ HH3.out
        obtain ⟨hc3, hf3⟩ := bcell hb3
        have hs3 := hB4.size
        have hs5 := hB2.size
        go_wp2_with fail
        go_roundw
        case rel => exact ⟨3, by go_num, by omega, Lib.hid ⟨fun _ => HP.out.1 (by omega), fun _ => HP.out.2.1 (by omega), fun _ => HZ.out, by have hh := heap_set_same (o := 2) (v := (.int .i64 v2)) HH3.out; unfold Blk3; rw [hh]; simp [nx]⟩, by go_grown⟩
        case measure => simp [intOf]
      · have HG := Lib.hid (HBad.out (.inr (.inr hz)))
        have HC3 := Lib.hid (HThree2.out hz)
        have HK := Lib.hid (fun W => K2.out W)
        obtain ⟨⟨z0, z1, z2⟩, ⟨f0, f1, f2⟩, hl2⟩ := Blk3.open_ HP.out.2.2.2
        rw [HC3.out] at HK
        clear hz
        go_wp2_with fail
        refine (HK.out _).mono ?_; rintro e w3 ⟨rfl, hb3⟩
        have hB4 : Below w.heap.size w w3 := (hb.alloc hb.size _).trans (hb3.mono (by have := hb.size; simp; omega))
        have HH3 := Lib.hid (heap_below (heap_alloc (p := .cells #[(.int .i64 a'), (.int .i64 b'), (.int .i64 c'), (.int .i64 d')] 36) HP.out.2.2.2) hb3)
        obtain ⟨⟨x0, x1, x2⟩, ⟨y0, y1, y2⟩, hl3⟩ := Blk3.open_ HH3.out
        have hs3 := hB4.size
        have hs5 := hB2.size
        go_wp2_with fail
        go_ret2
        exact ⟨ret_gap HG.out, by go_grown⟩
    · have HG := Lib.hid (HGood.out (HP.out.1 (by omega)) (HP.out.2.1 (by omega)) (HP.out.2.2.1 (by omega)))
      obtain ⟨⟨z0, z1, z2⟩, ⟨f0, f1, f2⟩, hl2⟩ := Blk3.open_ (show Blk3 wr (w2.heap.size + 1) 79 v0 v1 v2 from HP.out.2.2.2)
      have hs5 := hB2.size
      go_wp2_with fail
      go_ret2
      exact ⟨ret_gap HG.out, by go_grown⟩
theorem iGap_no (m n : M4) (w : World) (h : isMatM m = true → isMatM n = true → entQ (mulM m n) = false) :
    Calls Try.prog 40 #[(.agg #[.int .i64 m.p, .int .i64 m.q, .int .i64 m.r, .int .i64 m.s]), (.agg #[.int .i64 n.p, .int .i64 n.q, .int .i64 n.r, .int .i64 n.s])] w fun e w' => e = .returned (.tuple #[(.int .i64 ((gapRes m n).1)), (.int .i64 ((gapRes m n).2))]) ∧ Below w.heap.size w w' := by
  have HA := Lib.hid (fun bk W hc => areMatrices_2 bk m.p m.q m.r m.s n.p n.q n.r n.s W hc)
  by_cases hMN : (isMatM m && isMatM n) = true
  · have hMN' := hMN
    simp only [Bool.and_eq_true] at hMN'
    obtain ⟨hM, hN⟩ := hMN'
    have hE := h hM hN
    have HQ := Lib.hid (fun bk W hlt hc => product_any bk 2 2 [m, n] W rfl (by omega) hlt (cells2 hc) (by intro x hx; simp at hx; rcases hx with rfl | rfl; exact entM_mat (isMat_iff.1 hM); exact entM_mat (isMat_iff.1 hN)))
    rw [show prodV (prodF [m, n] ⟨1, 0, 0, 1⟩) = .tuple #[(.agg #[.int .i64 0, .int .i64 0, .int .i64 0, .int .i64 0]), (.int .i64 3)] by rw [prodF_2 (isMat_iff.1 hM), hE]; rfl] at HQ
    rw [show (isMat m.p m.q m.r m.s && isMat n.p n.q n.r n.s) = true from hMN] at HA
    rw [show gapRes m n = (0, 3) by simp [gapRes, hMN, hE]]
    clear h hMN hM hN hE
    obtain ⟨a, b, c, d⟩ := m
    obtain ⟨a', b', c', d'⟩ := n
    simp only at HA HQ ⊢
    go_enter Try.func40, Try.ntmps40
    go_wp2_with fail
    refine (HA.out _ _ ⟨by go_simp, by go_simp, by go_simp, by go_simp, by go_simp, by go_simp, by go_simp, by go_simp, by simp⟩).mono ?_; rintro e w1 ⟨rfl, hb1⟩
    obtain ⟨hc1, hf1⟩ := bcell hb1
    have hB1 : Below w.heap.size w w1 := bfin (by go_grown) hb1
    have hs1 := hb1.size
    simp at hs1
    go_wp2_with fail
    refine (HQ.out _ _ (by simp) ⟨by go_simp, by go_simp, by go_simp, by go_simp, by go_simp, by go_simp, by go_simp, by go_simp, by simp⟩).mono ?_; rintro e w2 ⟨rfl, hb2⟩
    have hB2 : Below w.heap.size w w2 := bfin (by go_grown) hb2
    have hs5 := hB2.size
    go_wp2_with fail
    go_ret2
    exact ⟨rfl, by go_grown⟩
  · have hMN : (isMatM m && isMatM n) = false := by simpa using hMN
    rw [show (isMat m.p m.q m.r m.s && isMat n.p n.q n.r n.s) = false from hMN] at HA
    rw [show gapRes m n = (0, 1) by simp only [gapRes, hMN]; rfl]
    clear h hMN
    obtain ⟨a, b, c, d⟩ := m
    obtain ⟨a', b', c', d'⟩ := n
    simp only at HA ⊢
    go_enter Try.func40, Try.ntmps40
    go_wp2_with fail
    refine (HA.out _ _ ⟨by go_simp, by go_simp, by go_simp, by go_simp, by go_simp, by go_simp, by go_simp, by go_simp, by simp⟩).mono ?_; rintro e w1 ⟨rfl, hb1⟩
    have hB1 : Below w.heap.size w w1 := bfin (by go_grown) hb1
    go_wp2_with fail
    go_ret2
    exact ⟨rfl, by go_grown⟩
theorem iGap_any (m n : M4) (w : World) :
    Calls Try.prog 40 #[(.agg #[.int .i64 m.p, .int .i64 m.q, .int .i64 m.r, .int .i64 m.s]), (.agg #[.int .i64 n.p, .int .i64 n.q, .int .i64 n.r, .int .i64 n.s])] w fun e w' => e = .returned (.tuple #[(.int .i64 ((gapRes m n).1)), (.int .i64 ((gapRes m n).2))]) ∧ Below w.heap.size w w' := by
  by_cases h : isMatM m = true ∧ isMatM n = true ∧ entQ (mulM m n) = true
  · exact iGap_ok m n _ w h.1 h.2.1 rfl h.2.2
  · exact iGap_no m n w fun h1 h2 => by
      cases hE : entQ (mulM m n)
      · rfl
      · exact absurd ⟨h1, h2, hE⟩ h
set_option maxRecDepth 100000 in
set_option maxHeartbeats 1000000 in
theorem lawFnExactProductGap (a b c d a' b' c' d' : Int) (_ : I64 a) (_ : I64 b) (_ : I64 c) (_ : I64 d) (_ : I64 a') (_ : I64 b') (_ : I64 c') (_ : I64 d') (w : World) :
    Calls Try.prog 11 #[(.agg #[.int .i64 a, .int .i64 b, .int .i64 c, .int .i64 d]), (.agg #[.int .i64 a', .int .i64 b', .int .i64 c', .int .i64 d'])] w fun e w' => e = .returned (.bool true) ∧ Below w.heap.size w w' := by
  have HS := Lib.hid (fun W => sProductGap_any ⟨a, b, c, d⟩ ⟨a', b', c', d'⟩ W)
  have HI := Lib.hid (fun W => iGap_any ⟨a, b, c, d⟩ ⟨a', b', c', d'⟩ W)
  generalize gapRes ⟨a, b, c, d⟩ ⟨a', b', c', d'⟩ = R at HS HI
  obtain ⟨x, y⟩ := R
  simp only at HS HI
  have hn1 : (x != x) = false := by simp
  have hn2 : (y != y) = false := by simp
  go_enter Try.func11, Try.ntmps11
  go_wp2_with fail
  refine wp_region_ext (by kernel_rfl) (by kernel_rfl) ?_
  repeat (go_big_quiet_step (first | ((go_at_call 25; refine Calls.ext_of (Nat.le_refl _) (toMatrix_any _ _ _ _ _))) | ((go_at_call 39; refine Calls.ext_of (Nat.le_refl _) (HS.out _)))))
  refine wpQuiet_nil ?_
  intro w1 hb1
  obtain ⟨hc1, hf1⟩ := bcell hb1
  obtain ⟨hz0, hz1⟩ : w.heap.size < w1.heap.size ∧ w.heap.size + 1 < w1.heap.size := by have := hb1.size; (try simp at this); omega
  go_wp2_with fail
  have hB1 : Below w.heap.size w w1 := bfin (by go_grown) hb1
  refine wp_region_ext (by kernel_rfl) (by kernel_rfl) ?_
  repeat (go_big_quiet_step (first | ((go_at_call 25; refine Calls.ext_of (Nat.le_refl _) (toMatrix_any _ _ _ _ _))) | ((go_at_call 40; refine Calls.ext_of (Nat.le_refl _) (HI.out _)))))
  refine wpQuiet_nil ?_
  intro w2 hb2
  obtain ⟨hc2, hf2⟩ := bcell hb2
  have hB2 : Below w.heap.size w w2 := bfin (by go_grown) hb2
  go_wp2_with fail
  go_ret
  exact ⟨rfl, by go_grown⟩
end Go.Proofs.Ytkhlgphmimddhaa
