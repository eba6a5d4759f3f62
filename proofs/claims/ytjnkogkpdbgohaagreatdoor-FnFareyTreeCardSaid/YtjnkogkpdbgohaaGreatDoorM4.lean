/- Contracts: NextInRow (printed by gen_m4.py). -/
import Derived.Test.YtjnkogkpdbgohaaGreatDoorM3
namespace Go.Proofs.YtjnkogkpdbgohaaGreatDoor
open Go.RowKit
def nirC (n p q : Int) : Int := if isFrac p q = true then (if (inB n 1 1000 && (inB q 1 n && inB p 0 q)) = true then (if p = 1 ∧ q = 1 then 4 else 0) else 2) else 1
def nirRes (n p q r s : Int) : (Int × Int) × Int := if nirC n p q = 0 then ((r, s), 0) else ((0, 0), nirC n p q)
set_option maxRecDepth 100000 in
theorem eqFracM (a b a' b' : Int) (w : World) : (Op.equalIn 10000 34 (.agg #[.int .i64 a, .int .i64 b]) (.agg #[.int .i64 a', .int .i64 b'])).run Tryz.prog w = .ok (a == a' && b == b') w :=
  run_equalIn_arr2 Tryz.underlying34 ⟨_, rfl⟩ Tryz.underlying2 (by kernel_rfl) (fun x y w => ⟨by kernel_rfl, by kernel_rfl⟩) a b a' b' w
attribute [local go_sem] eqFracM
set_option maxRecDepth 100000 in
set_option maxHeartbeats 4000000 in
theorem NextInRow_any (n p q r s : Int) (w : World) (hN : nirC n p q = 0 → NxT p q n r s) :
    Calls Tryz.prog 11 #[(.int .i64 n), (.agg #[.int .i64 p, .int .i64 q])] w fun e w' => e = .returned (.tuple #[(.agg #[.int .i64 ((nirRes n p q r s).1.1), .int .i64 ((nirRes n p q r s).1.2)]), (.int .i64 ((nirRes n p q r s).2))]) ∧ Below w.heap.size w w' := by
  have HF := Lib.hid (fun W => IsFraction_any p q W)
  have H1 := Lib.hid (fun W => within_any n 1 1000 W)
  have H2 := Lib.hid (fun W => within_any q 1 n W)
  have H3 := Lib.hid (fun W => within_any p 0 q W)
  cases hf : isFrac p q
  · rw [show nirRes n p q r s = ((0, 0), 1) by simp [nirRes, nirC, hf]]
    rw [hf] at HF
    clear hN
    go_enter Tryz.func11, Tryz.ntmps11
    go_wp2_with fail
    refine (HF.out _).mono ?_; rintro e w1 ⟨rfl, hb⟩
    have T := Lib.hid (show Below w.heap.size w w1 from bfin (by go_grown) hb)
    have F := Lib.hid (show Blk2 w1 w.heap.size 34 p q from heap_below (heap_alloc heap_new) hb)
    have Z := Lib.hid (show Blk2 w1 (w.heap.size + 1) 34 0 0 from heap_below (heap_new' (by simp)) hb)
    clear hb
    obtain ⟨⟨f0, f1⟩, -, hlf⟩ := F.out.open_
    obtain ⟨⟨z0, z1⟩, ⟨z2, z3⟩, hlz⟩ := Z.out.open_
    go_wp2_with (first | (with_reducible refine (H1.out _).mono ?_; rintro e w' ⟨rfl, rfl⟩) | (with_reducible refine (H2.out _).mono ?_; rintro e w' ⟨rfl, rfl⟩) | (with_reducible refine (H3.out _).mono ?_; rintro e w' ⟨rfl, rfl⟩))
    refine bodyPost_ret (v := .tuple #[(.agg #[.int .i64 0, .int .i64 0]), (.int .i64 1)]) (by first | (simp [results, Tryz.results11, go_sem]; done) | (simp [results, Tryz.results11, go_sem, set2_0 Z.out, set2_1 Z.out] <;> rfl)) rfl ?_
    exact ⟨rfl, (T.out.setCell (p := ⟨w.heap.size + 1, 0, none⟩) (by show _ ≤ w.heap.size + 1; omega) _).setCell (p := ⟨w.heap.size + 1, 1, none⟩) (by show _ ≤ w.heap.size + 1; omega) _⟩
  rw [hf] at HF
  cases h1 : inB n 1 1000
  · rw [show nirRes n p q r s = ((0, 0), 2) by simp [nirRes, nirC, hf, h1]]
    rw [h1] at H1
    clear hN
    go_enter Tryz.func11, Tryz.ntmps11
    go_wp2_with fail
    refine (HF.out _).mono ?_; rintro e w1 ⟨rfl, hb⟩
    have T := Lib.hid (show Below w.heap.size w w1 from bfin (by go_grown) hb)
    have F := Lib.hid (show Blk2 w1 w.heap.size 34 p q from heap_below (heap_alloc heap_new) hb)
    have Z := Lib.hid (show Blk2 w1 (w.heap.size + 1) 34 0 0 from heap_below (heap_new' (by simp)) hb)
    clear hb
    obtain ⟨⟨f0, f1⟩, -, hlf⟩ := F.out.open_
    obtain ⟨⟨z0, z1⟩, ⟨z2, z3⟩, hlz⟩ := Z.out.open_
    go_wp2_with (first | (with_reducible refine (H1.out _).mono ?_; rintro e w' ⟨rfl, rfl⟩) | (with_reducible refine (H2.out _).mono ?_; rintro e w' ⟨rfl, rfl⟩) | (with_reducible refine (H3.out _).mono ?_; rintro e w' ⟨rfl, rfl⟩))
    refine bodyPost_ret (v := .tuple #[(.agg #[.int .i64 0, .int .i64 0]), (.int .i64 2)]) (by first | (simp [results, Tryz.results11, go_sem]; done) | (simp [results, Tryz.results11, go_sem, set2_0 Z.out, set2_1 Z.out] <;> rfl)) rfl ?_
    exact ⟨rfl, (T.out.setCell (p := ⟨w.heap.size + 1, 0, none⟩) (by show _ ≤ w.heap.size + 1; omega) _).setCell (p := ⟨w.heap.size + 1, 1, none⟩) (by show _ ≤ w.heap.size + 1; omega) _⟩
  rw [h1] at H1
  cases h2 : inB q 1 n
  · rw [show nirRes n p q r s = ((0, 0), 2) by simp [nirRes, nirC, hf, h1, h2]]
    rw [h2] at H2
    clear hN
    go_enter Tryz.func11, Tryz.ntmps11
    go_wp2_with fail
    refine (HF.out _).mono ?_; rintro e w1 ⟨rfl, hb⟩
    have T := Lib.hid (show Below w.heap.size w w1 from bfin (by go_grown) hb)
    have F := Lib.hid (show Blk2 w1 w.heap.size 34 p q from heap_below (heap_alloc heap_new) hb)
    have Z := Lib.hid (show Blk2 w1 (w.heap.size + 1) 34 0 0 from heap_below (heap_new' (by simp)) hb)
    clear hb
    obtain ⟨⟨f0, f1⟩, -, hlf⟩ := F.out.open_
    obtain ⟨⟨z0, z1⟩, ⟨z2, z3⟩, hlz⟩ := Z.out.open_
    go_wp2_with (first | (with_reducible refine (H1.out _).mono ?_; rintro e w' ⟨rfl, rfl⟩) | (with_reducible refine (H2.out _).mono ?_; rintro e w' ⟨rfl, rfl⟩) | (with_reducible refine (H3.out _).mono ?_; rintro e w' ⟨rfl, rfl⟩))
    refine bodyPost_ret (v := .tuple #[(.agg #[.int .i64 0, .int .i64 0]), (.int .i64 2)]) (by first | (simp [results, Tryz.results11, go_sem]; done) | (simp [results, Tryz.results11, go_sem, set2_0 Z.out, set2_1 Z.out] <;> rfl)) rfl ?_
    exact ⟨rfl, (T.out.setCell (p := ⟨w.heap.size + 1, 0, none⟩) (by show _ ≤ w.heap.size + 1; omega) _).setCell (p := ⟨w.heap.size + 1, 1, none⟩) (by show _ ≤ w.heap.size + 1; omega) _⟩
  rw [h2] at H2
  cases h3 : inB p 0 q
  · rw [show nirRes n p q r s = ((0, 0), 2) by simp [nirRes, nirC, hf, h1, h2, h3]]
    rw [h3] at H3
    clear hN
    go_enter Tryz.func11, Tryz.ntmps11
    go_wp2_with fail
    refine (HF.out _).mono ?_; rintro e w1 ⟨rfl, hb⟩
    have T := Lib.hid (show Below w.heap.size w w1 from bfin (by go_grown) hb)
    have F := Lib.hid (show Blk2 w1 w.heap.size 34 p q from heap_below (heap_alloc heap_new) hb)
    have Z := Lib.hid (show Blk2 w1 (w.heap.size + 1) 34 0 0 from heap_below (heap_new' (by simp)) hb)
    clear hb
    obtain ⟨⟨f0, f1⟩, -, hlf⟩ := F.out.open_
    obtain ⟨⟨z0, z1⟩, ⟨z2, z3⟩, hlz⟩ := Z.out.open_
    go_wp2_with (first | (with_reducible refine (H1.out _).mono ?_; rintro e w' ⟨rfl, rfl⟩) | (with_reducible refine (H2.out _).mono ?_; rintro e w' ⟨rfl, rfl⟩) | (with_reducible refine (H3.out _).mono ?_; rintro e w' ⟨rfl, rfl⟩))
    refine bodyPost_ret (v := .tuple #[(.agg #[.int .i64 0, .int .i64 0]), (.int .i64 2)]) (by first | (simp [results, Tryz.results11, go_sem]; done) | (simp [results, Tryz.results11, go_sem, set2_0 Z.out, set2_1 Z.out] <;> rfl)) rfl ?_
    exact ⟨rfl, (T.out.setCell (p := ⟨w.heap.size + 1, 0, none⟩) (by show _ ≤ w.heap.size + 1; omega) _).setCell (p := ⟨w.heap.size + 1, 1, none⟩) (by show _ ≤ w.heap.size + 1; omega) _⟩
  rw [h3] at H3
  by_cases h4 : p = 1 ∧ q = 1
  · have hc : nirC n p q = 4 := by unfold nirC; rw [if_pos hf, if_pos (by simp [h1, h2, h3]), if_pos h4]
    rw [show nirRes n p q r s = ((0, 0), 4) by simp [nirRes, hc]]
    obtain ⟨rfl, rfl⟩ := h4
    clear hN hc
    go_enter Tryz.func11, Tryz.ntmps11
    go_wp2_with fail
    refine (HF.out _).mono ?_; rintro e w1 ⟨rfl, hb⟩
    have T := Lib.hid (show Below w.heap.size w w1 from bfin (by go_grown) hb)
    have F := Lib.hid (show Blk2 w1 w.heap.size 34 1 1 from heap_below (heap_alloc heap_new) hb)
    have Z := Lib.hid (show Blk2 w1 (w.heap.size + 1) 34 0 0 from heap_below (heap_new' (by simp)) hb)
    clear hb
    obtain ⟨⟨f0, f1⟩, -, hlf⟩ := F.out.open_
    obtain ⟨⟨z0, z1⟩, ⟨z2, z3⟩, hlz⟩ := Z.out.open_
    go_wp2_with (first | (with_reducible refine (H1.out _).mono ?_; rintro e w' ⟨rfl, rfl⟩) | (with_reducible refine (H2.out _).mono ?_; rintro e w' ⟨rfl, rfl⟩) | (with_reducible refine (H3.out _).mono ?_; rintro e w' ⟨rfl, rfl⟩))
    refine bodyPost_ret (v := .tuple #[(.agg #[.int .i64 0, .int .i64 0]), (.int .i64 4)]) (by first | (simp [results, Tryz.results11, go_sem]; done) | (simp [results, Tryz.results11, go_sem, set2_0 Z.out, set2_1 Z.out] <;> rfl)) rfl ?_
    exact ⟨rfl, (T.out.setCell (p := ⟨w.heap.size + 1, 0, none⟩) (by show _ ≤ w.heap.size + 1; omega) _).setCell (p := ⟨w.heap.size + 1, 1, none⟩) (by show _ ≤ w.heap.size + 1; omega) _⟩
  · have hc : nirC n p q = 0 := by simp only [nirC, hf, h1, h2, h3]; simp [h4]
    rw [show nirRes n p q r s = ((r, s), 0) by simp [nirRes, hc]]
    have h := hN hc
    have hg0 := (isFrac_iff.1 hf).2.2.1
    have hg : Int.gcd p q = 1 := by exact_mod_cast hg0
    simp only [inB, Bool.and_eq_true, decide_eq_true_eq] at h1 h2 h3
    have hn2 : n ≤ 1000 := h1.2
    have hq : 0 < q := by omega
    have hp : 0 ≤ p := h3.1
    have hqn : q ≤ n := h2.2
    have hpq : p < q := by
      refine Int.lt_iff_le_and_ne.2 ⟨h3.2, fun e => h4 ?_⟩
      subst e
      rw [Int.gcd_self] at hg
      omega
    have h4' : (p == 1 && q == 1) = false := by
      rw [Bool.eq_false_iff]; intro e
      rw [Bool.and_eq_true, beq_iff_eq, beq_iff_eq] at e
      exact h4 e
    have HX := Lib.hid (fun W => nextInRow_any n p q r s W hq hp hpq hqn hn2 hg h)
    clear hN h hc h1 h2 h3 hf hg0 hg h4
    go_enter Tryz.func11, Tryz.ntmps11
    go_wp2_with fail
    refine (HF.out _).mono ?_; rintro e w1 ⟨rfl, hb⟩
    have T := Lib.hid (show Below w.heap.size w w1 from bfin (by go_grown) hb)
    have F := Lib.hid (show Blk2 w1 w.heap.size 34 p q from heap_below (heap_alloc heap_new) hb)
    have Z := Lib.hid (show Blk2 w1 (w.heap.size + 1) 34 0 0 from heap_below (heap_new' (by simp)) hb)
    clear hb
    obtain ⟨⟨f0, f1⟩, -, hlf⟩ := F.out.open_
    obtain ⟨⟨z0, z1⟩, ⟨z2, z3⟩, hlz⟩ := Z.out.open_
    go_wp2_with (first | (with_reducible refine (H1.out _).mono ?_; rintro e w' ⟨rfl, rfl⟩) | (with_reducible refine (H2.out _).mono ?_; rintro e w' ⟨rfl, rfl⟩) | (with_reducible refine (H3.out _).mono ?_; rintro e w' ⟨rfl, rfl⟩))
    refine (HX.out _).mono ?_; rintro e w2 ⟨rfl, hb⟩
    replace T := Lib.hid (bfin T.out hb)
    replace Z := Lib.hid (show Blk2 w2 (w.heap.size + 1) 34 0 0 from heap_below Z.out hb)
    clear hb f0 f1 hlf z0 z1 z2 z3 hlz F
    obtain ⟨⟨z0, z1⟩, ⟨z2, z3⟩, hlz⟩ := Z.out.open_
    go_wp2_with (first | (with_reducible refine (H1.out _).mono ?_; rintro e w' ⟨rfl, rfl⟩) | (with_reducible refine (H2.out _).mono ?_; rintro e w' ⟨rfl, rfl⟩) | (with_reducible refine (H3.out _).mono ?_; rintro e w' ⟨rfl, rfl⟩))
    refine bodyPost_ret (v := .tuple #[(.agg #[.int .i64 r, .int .i64 s]), (.int .i64 0)]) (by first | (simp [results, Tryz.results11, go_sem]; done) | (simp [results, Tryz.results11, go_sem, set2_0 Z.out, set2_1 Z.out] <;> rfl)) rfl ?_
    exact ⟨rfl, (T.out.setCell (p := ⟨w.heap.size + 1, 0, none⟩) (by show _ ≤ w.heap.size + 1; omega) _).setCell (p := ⟨w.heap.size + 1, 1, none⟩) (by show _ ≤ w.heap.size + 1; omega) _⟩
set_option maxRecDepth 100000 in
set_option maxHeartbeats 4000000 in
theorem sNextInRow_any (n p q r s : Int) (w : World) (hN : nirC n p q = 0 → NxT p q n r s) :
    Calls Tryz.prog 29 #[(.int .i64 n), (.agg #[.int .i64 p, .int .i64 q])] w fun e w' => e = .returned (.tuple #[(.agg #[.int .i64 ((nirRes n p q r s).1.1), .int .i64 ((nirRes n p q r s).1.2)]), (.int .i64 ((nirRes n p q r s).2))]) ∧ Below w.heap.size w w' := by
  have HF := Lib.hid (fun W => l01Fraction_any p q W)
  have H1 := Lib.hid (fun W => l01In_any n 1 1000 W)
  have H2 := Lib.hid (fun W => l01In_any q 1 n W)
  have H3 := Lib.hid (fun W => l01In_any p 0 q W)
  cases hf : isFrac p q
  · rw [show nirRes n p q r s = ((0, 0), 1) by simp [nirRes, nirC, hf]]
    rw [hf] at HF
    clear hN
    go_enter Tryz.func29, Tryz.ntmps29
    go_wp2_with fail
    refine (HF.out _).mono ?_; rintro e w1 ⟨rfl, hb⟩
    have T := Lib.hid (show Below w.heap.size w w1 from bfin (by go_grown) hb)
    have F := Lib.hid (show Blk2 w1 w.heap.size 34 p q from heap_below (heap_alloc heap_new) hb)
    have Z := Lib.hid (show Blk2 w1 (w.heap.size + 1) 34 0 0 from heap_below (heap_new' (by simp)) hb)
    clear hb
    obtain ⟨⟨f0, f1⟩, -, hlf⟩ := F.out.open_
    obtain ⟨⟨z0, z1⟩, ⟨z2, z3⟩, hlz⟩ := Z.out.open_
    go_wp2_with (first | (with_reducible refine (H1.out _).mono ?_; rintro e w' ⟨rfl, rfl⟩) | (with_reducible refine (H2.out _).mono ?_; rintro e w' ⟨rfl, rfl⟩) | (with_reducible refine (H3.out _).mono ?_; rintro e w' ⟨rfl, rfl⟩))
    refine bodyPost_ret (v := .tuple #[(.agg #[.int .i64 0, .int .i64 0]), (.int .i64 1)]) (by first | (simp [results, Tryz.results29, go_sem]; done) | (simp [results, Tryz.results29, go_sem, set2_0 Z.out, set2_1 Z.out] <;> rfl)) rfl ?_
    exact ⟨rfl, (T.out.setCell (p := ⟨w.heap.size + 1, 0, none⟩) (by show _ ≤ w.heap.size + 1; omega) _).setCell (p := ⟨w.heap.size + 1, 1, none⟩) (by show _ ≤ w.heap.size + 1; omega) _⟩
  rw [hf] at HF
  cases h1 : inB n 1 1000
  · rw [show nirRes n p q r s = ((0, 0), 2) by simp [nirRes, nirC, hf, h1]]
    rw [h1] at H1
    clear hN
    go_enter Tryz.func29, Tryz.ntmps29
    go_wp2_with fail
    refine (HF.out _).mono ?_; rintro e w1 ⟨rfl, hb⟩
    have T := Lib.hid (show Below w.heap.size w w1 from bfin (by go_grown) hb)
    have F := Lib.hid (show Blk2 w1 w.heap.size 34 p q from heap_below (heap_alloc heap_new) hb)
    have Z := Lib.hid (show Blk2 w1 (w.heap.size + 1) 34 0 0 from heap_below (heap_new' (by simp)) hb)
    clear hb
    obtain ⟨⟨f0, f1⟩, -, hlf⟩ := F.out.open_
    obtain ⟨⟨z0, z1⟩, ⟨z2, z3⟩, hlz⟩ := Z.out.open_
    go_wp2_with (first | (with_reducible refine (H1.out _).mono ?_; rintro e w' ⟨rfl, rfl⟩) | (with_reducible refine (H2.out _).mono ?_; rintro e w' ⟨rfl, rfl⟩) | (with_reducible refine (H3.out _).mono ?_; rintro e w' ⟨rfl, rfl⟩))
    refine bodyPost_ret (v := .tuple #[(.agg #[.int .i64 0, .int .i64 0]), (.int .i64 2)]) (by first | (simp [results, Tryz.results29, go_sem]; done) | (simp [results, Tryz.results29, go_sem, set2_0 Z.out, set2_1 Z.out] <;> rfl)) rfl ?_
    exact ⟨rfl, (T.out.setCell (p := ⟨w.heap.size + 1, 0, none⟩) (by show _ ≤ w.heap.size + 1; omega) _).setCell (p := ⟨w.heap.size + 1, 1, none⟩) (by show _ ≤ w.heap.size + 1; omega) _⟩
  rw [h1] at H1
  cases h2 : inB q 1 n
  · rw [show nirRes n p q r s = ((0, 0), 2) by simp [nirRes, nirC, hf, h1, h2]]
    rw [h2] at H2
    clear hN
    go_enter Tryz.func29, Tryz.ntmps29
    go_wp2_with fail
    refine (HF.out _).mono ?_; rintro e w1 ⟨rfl, hb⟩
    have T := Lib.hid (show Below w.heap.size w w1 from bfin (by go_grown) hb)
    have F := Lib.hid (show Blk2 w1 w.heap.size 34 p q from heap_below (heap_alloc heap_new) hb)
    have Z := Lib.hid (show Blk2 w1 (w.heap.size + 1) 34 0 0 from heap_below (heap_new' (by simp)) hb)
    clear hb
    obtain ⟨⟨f0, f1⟩, -, hlf⟩ := F.out.open_
    obtain ⟨⟨z0, z1⟩, ⟨z2, z3⟩, hlz⟩ := Z.out.open_
    go_wp2_with (first | (with_reducible refine (H1.out _).mono ?_; rintro e w' ⟨rfl, rfl⟩) | (with_reducible refine (H2.out _).mono ?_; rintro e w' ⟨rfl, rfl⟩) | (with_reducible refine (H3.out _).mono ?_; rintro e w' ⟨rfl, rfl⟩))
    refine bodyPost_ret (v := .tuple #[(.agg #[.int .i64 0, .int .i64 0]), (.int .i64 2)]) (by first | (simp [results, Tryz.results29, go_sem]; done) | (simp [results, Tryz.results29, go_sem, set2_0 Z.out, set2_1 Z.out] <;> rfl)) rfl ?_
    exact ⟨rfl, (T.out.setCell (p := ⟨w.heap.size + 1, 0, none⟩) (by show _ ≤ w.heap.size + 1; omega) _).setCell (p := ⟨w.heap.size + 1, 1, none⟩) (by show _ ≤ w.heap.size + 1; omega) _⟩
  rw [h2] at H2
  cases h3 : inB p 0 q
  · rw [show nirRes n p q r s = ((0, 0), 2) by simp [nirRes, nirC, hf, h1, h2, h3]]
    rw [h3] at H3
    clear hN
    go_enter Tryz.func29, Tryz.ntmps29
    go_wp2_with fail
    refine (HF.out _).mono ?_; rintro e w1 ⟨rfl, hb⟩
    have T := Lib.hid (show Below w.heap.size w w1 from bfin (by go_grown) hb)
    have F := Lib.hid (show Blk2 w1 w.heap.size 34 p q from heap_below (heap_alloc heap_new) hb)
    have Z := Lib.hid (show Blk2 w1 (w.heap.size + 1) 34 0 0 from heap_below (heap_new' (by simp)) hb)
    clear hb
    obtain ⟨⟨f0, f1⟩, -, hlf⟩ := F.out.open_
    obtain ⟨⟨z0, z1⟩, ⟨z2, z3⟩, hlz⟩ := Z.out.open_
    go_wp2_with (first | (with_reducible refine (H1.out _).mono ?_; rintro e w' ⟨rfl, rfl⟩) | (with_reducible refine (H2.out _).mono ?_; rintro e w' ⟨rfl, rfl⟩) | (with_reducible refine (H3.out _).mono ?_; rintro e w' ⟨rfl, rfl⟩))
    refine bodyPost_ret (v := .tuple #[(.agg #[.int .i64 0, .int .i64 0]), (.int .i64 2)]) (by first | (simp [results, Tryz.results29, go_sem]; done) | (simp [results, Tryz.results29, go_sem, set2_0 Z.out, set2_1 Z.out] <;> rfl)) rfl ?_
    exact ⟨rfl, (T.out.setCell (p := ⟨w.heap.size + 1, 0, none⟩) (by show _ ≤ w.heap.size + 1; omega) _).setCell (p := ⟨w.heap.size + 1, 1, none⟩) (by show _ ≤ w.heap.size + 1; omega) _⟩
  rw [h3] at H3
  by_cases h4 : p = 1 ∧ q = 1
  · have hc : nirC n p q = 4 := by unfold nirC; rw [if_pos hf, if_pos (by simp [h1, h2, h3]), if_pos h4]
    rw [show nirRes n p q r s = ((0, 0), 4) by simp [nirRes, hc]]
    obtain ⟨rfl, rfl⟩ := h4
    clear hN hc
    go_enter Tryz.func29, Tryz.ntmps29
    go_wp2_with fail
    refine (HF.out _).mono ?_; rintro e w1 ⟨rfl, hb⟩
    have T := Lib.hid (show Below w.heap.size w w1 from bfin (by go_grown) hb)
    have F := Lib.hid (show Blk2 w1 w.heap.size 34 1 1 from heap_below (heap_alloc heap_new) hb)
    have Z := Lib.hid (show Blk2 w1 (w.heap.size + 1) 34 0 0 from heap_below (heap_new' (by simp)) hb)
    clear hb
    obtain ⟨⟨f0, f1⟩, -, hlf⟩ := F.out.open_
    obtain ⟨⟨z0, z1⟩, ⟨z2, z3⟩, hlz⟩ := Z.out.open_
    go_wp2_with (first | (with_reducible refine (H1.out _).mono ?_; rintro e w' ⟨rfl, rfl⟩) | (with_reducible refine (H2.out _).mono ?_; rintro e w' ⟨rfl, rfl⟩) | (with_reducible refine (H3.out _).mono ?_; rintro e w' ⟨rfl, rfl⟩))
    refine bodyPost_ret (v := .tuple #[(.agg #[.int .i64 0, .int .i64 0]), (.int .i64 4)]) (by first | (simp [results, Tryz.results29, go_sem]; done) | (simp [results, Tryz.results29, go_sem, set2_0 Z.out, set2_1 Z.out] <;> rfl)) rfl ?_
    exact ⟨rfl, (T.out.setCell (p := ⟨w.heap.size + 1, 0, none⟩) (by show _ ≤ w.heap.size + 1; omega) _).setCell (p := ⟨w.heap.size + 1, 1, none⟩) (by show _ ≤ w.heap.size + 1; omega) _⟩
  · have hc : nirC n p q = 0 := by simp only [nirC, hf, h1, h2, h3]; simp [h4]
    rw [show nirRes n p q r s = ((r, s), 0) by simp [nirRes, hc]]
    have h := hN hc
    have hg0 := (isFrac_iff.1 hf).2.2.1
    have hg : Int.gcd p q = 1 := by exact_mod_cast hg0
    simp only [inB, Bool.and_eq_true, decide_eq_true_eq] at h1 h2 h3
    have hn2 : n ≤ 1000 := h1.2
    have hq : 0 < q := by omega
    have hp : 0 ≤ p := h3.1
    have hqn : q ≤ n := h2.2
    have hpq : p < q := by
      refine Int.lt_iff_le_and_ne.2 ⟨h3.2, fun e => h4 ?_⟩
      subst e
      rw [Int.gcd_self] at hg
      omega
    have h4' : (p == 1 && q == 1) = false := by
      rw [Bool.eq_false_iff]; intro e
      rw [Bool.and_eq_true, beq_iff_eq, beq_iff_eq] at e
      exact h4 e
    have HX := Lib.hid (fun W => l03Next_any n p q r s W hq hp hpq hqn hn2 h)
    clear hN h hc h1 h2 h3 hf hg0 hg h4
    go_enter Tryz.func29, Tryz.ntmps29
    go_wp2_with fail
    refine (HF.out _).mono ?_; rintro e w1 ⟨rfl, hb⟩
    have T := Lib.hid (show Below w.heap.size w w1 from bfin (by go_grown) hb)
    have F := Lib.hid (show Blk2 w1 w.heap.size 34 p q from heap_below (heap_alloc heap_new) hb)
    have Z := Lib.hid (show Blk2 w1 (w.heap.size + 1) 34 0 0 from heap_below (heap_new' (by simp)) hb)
    clear hb
    obtain ⟨⟨f0, f1⟩, -, hlf⟩ := F.out.open_
    obtain ⟨⟨z0, z1⟩, ⟨z2, z3⟩, hlz⟩ := Z.out.open_
    go_wp2_with (first | (with_reducible refine (H1.out _).mono ?_; rintro e w' ⟨rfl, rfl⟩) | (with_reducible refine (H2.out _).mono ?_; rintro e w' ⟨rfl, rfl⟩) | (with_reducible refine (H3.out _).mono ?_; rintro e w' ⟨rfl, rfl⟩))
    refine (HX.out _).mono ?_; rintro e w2 ⟨rfl, hb⟩
    replace T := Lib.hid (bfin T.out hb)
    replace Z := Lib.hid (show Blk2 w2 (w.heap.size + 1) 34 0 0 from heap_below Z.out hb)
    clear hb f0 f1 hlf z0 z1 z2 z3 hlz F
    obtain ⟨⟨z0, z1⟩, ⟨z2, z3⟩, hlz⟩ := Z.out.open_
    go_wp2_with (first | (with_reducible refine (H1.out _).mono ?_; rintro e w' ⟨rfl, rfl⟩) | (with_reducible refine (H2.out _).mono ?_; rintro e w' ⟨rfl, rfl⟩) | (with_reducible refine (H3.out _).mono ?_; rintro e w' ⟨rfl, rfl⟩))
    refine bodyPost_ret (v := .tuple #[(.agg #[.int .i64 r, .int .i64 s]), (.int .i64 0)]) (by first | (simp [results, Tryz.results29, go_sem]; done) | (simp [results, Tryz.results29, go_sem, set2_0 Z.out, set2_1 Z.out] <;> rfl)) rfl ?_
    exact ⟨rfl, (T.out.setCell (p := ⟨w.heap.size + 1, 0, none⟩) (by show _ ≤ w.heap.size + 1; omega) _).setCell (p := ⟨w.heap.size + 1, 1, none⟩) (by show _ ≤ w.heap.size + 1; omega) _⟩
end Go.Proofs.YtjnkogkpdbgohaaGreatDoor
