/- Contracts: ReduceForm; the law. -/
import Derived.Test.YtcaiofhdcffogaaGreatC19
namespace Go.Proofs.YtcaiofhdcffogaaGreat
open Go.RowKit
theorem inv_reduceN {a b c : Int} : ∀ (k : Nat) {t : RS}, DefInv a b c t → DefInv a b c (reduceN k t)
  | 0, _, h => h
  | k + 1, t, h => by
    unfold reduceN
    split
    · exact h
    · exact inv_reduceN k (inv_step h)
theorem inv_reduceOf {a b c : Int} (h : Small a b c) (hd : disc a b c < 0) (ha : 0 < a) : DefInv a b c (reduceOf a b c) := inv_reduceN _ (inv_start h hd ha)
def reduceRes (a b c : Int) : RS × Int := if isForm a b c = true then (if defB a b c = true then (reduceOf a b c, 0) else (⟨⟨0, 0, 0⟩, ⟨0, 0, 0, 0⟩⟩, 5)) else (⟨⟨0, 0, 0⟩, ⟨0, 0, 0, 0⟩⟩, 1)
abbrev rr (R : RS × Int) : Value := .tuple #[(.agg #[.int .i64 R.1.f.x, .int .i64 R.1.f.y, .int .i64 R.1.f.z]), (.agg #[.int .i64 R.1.m.p, .int .i64 R.1.m.q, .int .i64 R.1.m.r, .int .i64 R.1.m.s]), (.int .i64 R.2)]
set_option maxRecDepth 100000 in
set_option maxHeartbeats 1000000 in
theorem ReduceForm_any (a b c : Int) (w : World) :
    Calls Tryz.prog 6 #[(.agg #[.int .i64 a, .int .i64 b, .int .i64 c])] w fun e w' => e = .returned (rr (reduceRes a b c)) ∧ Below w.heap.size w w' := by
  cases hF : isForm a b c
  · rw [show reduceRes a b c = (⟨⟨0, 0, 0⟩, ⟨0, 0, 0, 0⟩⟩, 1) by simp [reduceRes, hF]]
    go_enter Tryz.func6, Tryz.ntmps6
    go_wp2_with fail
    refine (IsForm_any _ _ _ _).mono ?_; rintro e w1 ⟨rfl, hb1⟩
    obtain ⟨hc1, hf1⟩ := bcell hb1
    obtain ⟨hz0, hz1, hz2⟩ : w.heap.size < w1.heap.size ∧ w.heap.size + 1 < w1.heap.size ∧ w.heap.size + 1 + 1 < w1.heap.size := by have := hb1.size; (try simp at this); omega
    have hB1 : Below w.heap.size w w1 := bfin (by go_grown) hb1
    go_wp2_with fail
    have hall := And.intro hc1 (And.intro hz0 (And.intro hz1 (hz2)))
    refine bodyPost_ret (v := .tuple #[(.agg #[.int .i64 0, .int .i64 0, .int .i64 0]), (.agg #[.int .i64 0, .int .i64 0, .int .i64 0, .int .i64 0]), (.int .i64 1)]) (by first | (simp [results, Tryz.results6, go_sem]; done) | (simp [results, Tryz.results6, go_sem, hall] <;> rfl)) rfl ⟨rfl, by go_grown⟩
  have hs := small_of hF
  cases hd : defB a b c
  · rw [show reduceRes a b c = (⟨⟨0, 0, 0⟩, ⟨0, 0, 0, 0⟩⟩, 5) by simp [reduceRes, hF, hd]]
    go_enter Tryz.func6, Tryz.ntmps6
    go_wp2_with fail
    refine (IsForm_any _ _ _ _).mono ?_; rintro e w1 ⟨rfl, hb1⟩
    obtain ⟨hc1, hf1⟩ := bcell hb1
    go_wp2_with fail
    refine (isDefinite_any _ _ _ _ hs).mono ?_; rintro e w2 ⟨rfl, hb2⟩
    replace hb2 := bstep hb1 hb2
    clear hc1 hf1 hb1
    obtain ⟨hc2, hf2⟩ := bcell hb2
    obtain ⟨hz0, hz1, hz2⟩ : w.heap.size < w2.heap.size ∧ w.heap.size + 1 < w2.heap.size ∧ w.heap.size + 1 + 1 < w2.heap.size := by have := hb2.size; (try simp at this); omega
    have hB2 : Below w.heap.size w w2 := bfin (by go_grown) hb2
    go_wp2_with fail
    have hall := And.intro hc2 (And.intro hz0 (And.intro hz1 (hz2)))
    refine bodyPost_ret (v := .tuple #[(.agg #[.int .i64 0, .int .i64 0, .int .i64 0]), (.agg #[.int .i64 0, .int .i64 0, .int .i64 0, .int .i64 0]), (.int .i64 5)]) (by first | (simp [results, Tryz.results6, go_sem]; done) | (simp [results, Tryz.results6, go_sem, hall] <;> rfl)) rfl ⟨rfl, by go_grown⟩
  · rw [show reduceRes a b c = (reduceOf a b c, 0) by simp [reduceRes, hF, hd]]
    have hd2 : disc a b c < 0 ∧ 0 < a := by simpa [defB] using hd
    have hsm := (inv_reduceOf hs hd2.1 hd2.2).sm
    have HR := Lib.hid (fun W => reduce_any a b c W hs hd2.1 hd2.2)
    clear hd2
    generalize reduceOf a b c = R at HR hsm
    obtain ⟨⟨x, y, z⟩, ⟨p, q, r, s⟩⟩ := R
    simp only at hsm
    have hsb : smallB x y z = true := by obtain ⟨_, _, _, _, _, _⟩ := hsm; simp [smallB, inB]; omega
    obtain ⟨x0, x1, y0, y1, z0, z1⟩ := hsm
    go_enter Tryz.func6, Tryz.ntmps6
    go_wp2_with fail
    refine (IsForm_any _ _ _ _).mono ?_; rintro e w1 ⟨rfl, hb1⟩
    obtain ⟨hc1, hf1⟩ := bcell hb1
    go_wp2_with fail
    refine (isDefinite_any _ _ _ _ hs).mono ?_; rintro e w2 ⟨rfl, hb2⟩
    replace hb2 := bstep hb1 hb2
    clear hc1 hf1 hb1
    obtain ⟨hc2, hf2⟩ := bcell hb2
    go_wp2_with fail
    refine (HR.out _).mono ?_; rintro e w3 ⟨rfl, hb3⟩
    replace hb3 := bstep hb2 hb3
    clear hc2 hf2 hb2
    obtain ⟨hc3, hf3⟩ := bcell hb3
    obtain ⟨hz0, hz1, hz2⟩ : w.heap.size < w3.heap.size ∧ w.heap.size + 1 < w3.heap.size ∧ w.heap.size + 1 + 1 < w3.heap.size := by have := hb3.size; (try simp at this); omega
    have hB3 : Below w.heap.size w w3 := bfin (by go_grown) hb3
    go_wp2_with fail
    refine (areSmall_any _ _ _ _ (by omega) (by omega) (by omega)).mono ?_; rintro e w4 ⟨rfl, hb4⟩
    obtain ⟨hc4, hf4⟩ := bcell hb4
    obtain ⟨hz4_0, hz4_1, hz4_2, hz4_3, hz4_4⟩ : w.heap.size < w4.heap.size ∧ w.heap.size + 1 < w4.heap.size ∧ w.heap.size + 1 + 1 < w4.heap.size ∧ w3.heap.size < w4.heap.size ∧ w3.heap.size + 1 < w4.heap.size := by have := hb4.size; (try simp at this); omega
    have O2 : Blk3 w4 (w.heap.size + 1) 25 0 0 0 := heap_below (by exact heap_alloc (heap_alloc (heap_below (by exact heap_alloc (heap_new' (by simp only [World.size_alloc]))) hb3))) hb4
    have O3 : Blk4 w4 (w.heap.size + 1 + 1) 28 0 0 0 0 := heap_below (by exact heap_alloc (heap_alloc (heap_below (by exact heap_new' (by simp only [World.size_alloc])) hb3))) hb4
    go_wp2_with fail
    go_region
    obtain ⟨⟨t20, t21, t22⟩, ⟨tf20, tf21, tf22⟩, tz2⟩ := O2.open_
    obtain ⟨⟨t30, t31, t32, t33⟩, ⟨tf30, tf31, tf32, tf33⟩, tz3⟩ := O3.open_
    have hB4 : Below w.heap.size w w4 := bfin (by go_grown) hb4
    go_wp2_with fail
    have hall := And.intro hc3 (And.intro hc4 (And.intro hz0 (And.intro hz1 (And.intro hz2 (And.intro hz4_0 (And.intro hz4_1 (And.intro hz4_2 (And.intro hz4_3 (And.intro hz4_4 (And.intro t20 (And.intro t21 (And.intro t22 (And.intro tz2 (And.intro t30 (And.intro t31 (And.intro t32 (And.intro t33 (And.intro tz3 (And.intro tf20 (And.intro tf21 (And.intro tf22 (And.intro tf30 (And.intro tf31 (And.intro tf32 (tf33)))))))))))))))))))))))))
    refine bodyPost_ret (v := .tuple #[(.agg #[.int .i64 x, .int .i64 y, .int .i64 z]), (.agg #[.int .i64 p, .int .i64 q, .int .i64 r, .int .i64 s]), (.int .i64 0)]) (by first | (simp [results, Tryz.results6, go_sem]; done) | (simp [results, Tryz.results6, go_sem, hall] <;> rfl)) rfl ⟨rfl, by go_grown⟩
set_option maxRecDepth 100000 in
set_option maxHeartbeats 1000000 in
theorem sReduceForm_any (a b c : Int) (w : World) :
    Calls Tryz.prog 7 #[(.agg #[.int .i64 a, .int .i64 b, .int .i64 c])] w fun e w' => e = .returned (rr (reduceRes a b c)) ∧ Below w.heap.size w w' := by
  cases hF : isForm a b c
  · rw [show reduceRes a b c = (⟨⟨0, 0, 0⟩, ⟨0, 0, 0, 0⟩⟩, 1) by simp [reduceRes, hF]]
    go_enter Tryz.func7, Tryz.ntmps7
    go_wp2_with fail
    refine (l05Is_any _ _ _ _).mono ?_; rintro e w1 ⟨rfl, hb1⟩
    obtain ⟨hc1, hf1⟩ := bcell hb1
    obtain ⟨hz0, hz1, hz2⟩ : w.heap.size < w1.heap.size ∧ w.heap.size + 1 < w1.heap.size ∧ w.heap.size + 1 + 1 < w1.heap.size := by have := hb1.size; (try simp at this); omega
    have hB1 : Below w.heap.size w w1 := bfin (by go_grown) hb1
    go_wp2_with fail
    have hall := And.intro hc1 (And.intro hz0 (And.intro hz1 (hz2)))
    refine bodyPost_ret (v := .tuple #[(.agg #[.int .i64 0, .int .i64 0, .int .i64 0]), (.agg #[.int .i64 0, .int .i64 0, .int .i64 0, .int .i64 0]), (.int .i64 1)]) (by first | (simp [results, Tryz.results7, go_sem]; done) | (simp [results, Tryz.results7, go_sem, hall] <;> rfl)) rfl ⟨rfl, by go_grown⟩
  have hs := small_of hF
  cases hd : defB a b c
  · rw [show reduceRes a b c = (⟨⟨0, 0, 0⟩, ⟨0, 0, 0, 0⟩⟩, 5) by simp [reduceRes, hF, hd]]
    go_enter Tryz.func7, Tryz.ntmps7
    go_wp2_with fail
    refine (l05Is_any _ _ _ _).mono ?_; rintro e w1 ⟨rfl, hb1⟩
    obtain ⟨hc1, hf1⟩ := bcell hb1
    go_wp2_with fail
    refine (l05Definite_any _ _ _ _ hs).mono ?_; rintro e w2 ⟨rfl, hb2⟩
    replace hb2 := bstep hb1 hb2
    clear hc1 hf1 hb1
    obtain ⟨hc2, hf2⟩ := bcell hb2
    obtain ⟨hz0, hz1, hz2⟩ : w.heap.size < w2.heap.size ∧ w.heap.size + 1 < w2.heap.size ∧ w.heap.size + 1 + 1 < w2.heap.size := by have := hb2.size; (try simp at this); omega
    have hB2 : Below w.heap.size w w2 := bfin (by go_grown) hb2
    go_wp2_with fail
    have hall := And.intro hc2 (And.intro hz0 (And.intro hz1 (hz2)))
    refine bodyPost_ret (v := .tuple #[(.agg #[.int .i64 0, .int .i64 0, .int .i64 0]), (.agg #[.int .i64 0, .int .i64 0, .int .i64 0, .int .i64 0]), (.int .i64 5)]) (by first | (simp [results, Tryz.results7, go_sem]; done) | (simp [results, Tryz.results7, go_sem, hall] <;> rfl)) rfl ⟨rfl, by go_grown⟩
  · rw [show reduceRes a b c = (reduceOf a b c, 0) by simp [reduceRes, hF, hd]]
    have hd2 : disc a b c < 0 ∧ 0 < a := by simpa [defB] using hd
    have hsm := (inv_reduceOf hs hd2.1 hd2.2).sm
    have hx0 := (inv_reduceOf hs hd2.1 hd2.2).x0
    have HR := Lib.hid (fun W => l05Down_any a b c W hs hd2.1 hd2.2)
    clear hd2
    generalize reduceOf a b c = R at HR hsm hx0
    obtain ⟨⟨x, y, z⟩, ⟨p, q, r, s⟩⟩ := R
    simp only at hsm hx0
    have hsb : isForm x y z = true := by obtain ⟨_, _, _, _, _, _⟩ := hsm; simp [isForm, inB]; omega
    obtain ⟨x0, x1, y0, y1, z0, z1⟩ := hsm
    go_enter Tryz.func7, Tryz.ntmps7
    go_wp2_with fail
    refine (l05Is_any _ _ _ _).mono ?_; rintro e w1 ⟨rfl, hb1⟩
    obtain ⟨hc1, hf1⟩ := bcell hb1
    go_wp2_with fail
    refine (l05Definite_any _ _ _ _ hs).mono ?_; rintro e w2 ⟨rfl, hb2⟩
    replace hb2 := bstep hb1 hb2
    clear hc1 hf1 hb1
    obtain ⟨hc2, hf2⟩ := bcell hb2
    go_wp2_with fail
    refine (HR.out _).mono ?_; rintro e w3 ⟨rfl, hb3⟩
    replace hb3 := bstep hb2 hb3
    clear hc2 hf2 hb2
    obtain ⟨hc3, hf3⟩ := bcell hb3
    obtain ⟨hz0, hz1, hz2⟩ : w.heap.size < w3.heap.size ∧ w.heap.size + 1 < w3.heap.size ∧ w.heap.size + 1 + 1 < w3.heap.size := by have := hb3.size; (try simp at this); omega
    have hB3 : Below w.heap.size w w3 := bfin (by go_grown) hb3
    go_wp2_with fail
    refine (l05Is_any _ _ _ _).mono ?_; rintro e w4 ⟨rfl, hb4⟩
    obtain ⟨hc4, hf4⟩ := bcell hb4
    obtain ⟨hz4_0, hz4_1, hz4_2, hz4_3, hz4_4⟩ : w.heap.size < w4.heap.size ∧ w.heap.size + 1 < w4.heap.size ∧ w.heap.size + 1 + 1 < w4.heap.size ∧ w3.heap.size < w4.heap.size ∧ w3.heap.size + 1 < w4.heap.size := by have := hb4.size; (try simp at this); omega
    have O2 : Blk3 w4 (w.heap.size + 1) 25 0 0 0 := heap_below (by exact heap_alloc (heap_alloc (heap_below (by exact heap_alloc (heap_new' (by simp only [World.size_alloc]))) hb3))) hb4
    have O3 : Blk4 w4 (w.heap.size + 1 + 1) 28 0 0 0 0 := heap_below (by exact heap_alloc (heap_alloc (heap_below (by exact heap_new' (by simp only [World.size_alloc])) hb3))) hb4
    go_wp2_with fail
    go_region
    obtain ⟨⟨t20, t21, t22⟩, ⟨tf20, tf21, tf22⟩, tz2⟩ := O2.open_
    obtain ⟨⟨t30, t31, t32, t33⟩, ⟨tf30, tf31, tf32, tf33⟩, tz3⟩ := O3.open_
    have hB4 : Below w.heap.size w w4 := bfin (by go_grown) hb4
    go_wp2_with fail
    have hall := And.intro hc3 (And.intro hc4 (And.intro hz0 (And.intro hz1 (And.intro hz2 (And.intro hz4_0 (And.intro hz4_1 (And.intro hz4_2 (And.intro hz4_3 (And.intro hz4_4 (And.intro t20 (And.intro t21 (And.intro t22 (And.intro tz2 (And.intro t30 (And.intro t31 (And.intro t32 (And.intro t33 (And.intro tz3 (And.intro tf20 (And.intro tf21 (And.intro tf22 (And.intro tf30 (And.intro tf31 (And.intro tf32 (tf33)))))))))))))))))))))))))
    refine bodyPost_ret (v := .tuple #[(.agg #[.int .i64 x, .int .i64 y, .int .i64 z]), (.agg #[.int .i64 p, .int .i64 q, .int .i64 r, .int .i64 s]), (.int .i64 0)]) (by first | (simp [results, Tryz.results7, go_sem]; done) | (simp [results, Tryz.results7, go_sem, hall] <;> rfl)) rfl ⟨rfl, by go_grown⟩
end Go.Proofs.YtcaiofhdcffogaaGreat
