/- Contracts: the next fraction in a row, by the program and by the model. -/
import Derived.Test.YtjnkogkpdbgohaaGreatDoorM1
import Derived.Test.YtjnkogkpdbgohaaGreatDoorNa
namespace Go.Proofs.YtjnkogkpdbgohaaGreatDoor
open Go.RowKit
theorem sg_neg {n : Int} : (sg n < 0) = (n < 0) := by unfold sg; split <;> (try split) <;> simp <;> omega
theorem compare_any (a b c d : Int) (w : World) (h1 : -1000000000000000000 ≤ a * d ∧ a * d ≤ 1000000000000000000) (h2 : -1000000000000000000 ≤ c * b ∧ c * b ≤ 1000000000000000000) :
    Calls Tryz.prog 49 #[(.agg #[.int .i64 a, .int .i64 b]), (.agg #[.int .i64 c, .int .i64 d])] w fun e w' => e = .returned (.int .i64 (sg (a * d - c * b))) ∧ Below w.heap.size w w' := by
  have HS := Lib.hid (fun W => sign_any (a * d - c * b) W)
  generalize hX : a * d - c * b = X at *
  have hX2 := Lib.hid hX
  obtain ⟨x0, x1⟩ := h1
  obtain ⟨y0, y1⟩ := h2
  go_enter Tryz.func49, Tryz.ntmps49
  go_wp2_with fail
  refine (HS.out _).mono ?_; rintro e w' ⟨rfl, rfl⟩
  go_wp2_with fail
  go_ret
  exact ⟨rfl, by go_grown⟩
set_option maxRecDepth 100000 in
set_option maxHeartbeats 2000000 in
theorem nextInRow_any (n p q r s : Int) (w : World) (hq : 0 < q) (hp : 0 ≤ p) (hpq : p < q) (hqn : q ≤ n) (hn : n ≤ 1000) (hg : Int.gcd p q = 1) (h : NxT p q n r s) :
    Calls Tryz.prog 35 #[(.int .i64 n), (.agg #[.int .i64 p, .int .i64 q])] w fun e w' => e = .returned (.agg #[.int .i64 r, .int .i64 s]) ∧ Below w.heap.size w w' := by
  have HS := Lib.hid (nx_start hq hp hpq hg h (by omega))
  have HE := Lib.hid (fun x y (hI : NxI p q n r s n x y) => nx_end h hI)
  have HT := Lib.hid (fun j x y h0 hj (hI : NxI p q n r s j x y) => nx_step hq hp hpq hg h h0 hj hI)
  have HB := Lib.hid (fun i (hi : 0 ≤ i) => nx_bd (p := p) (q := q) (i := i) hq hp hpq hi)
  clear hg h
  go_enter Tryz.func35, Tryz.ntmps35
  go_wp2_with fail
  have T := Lib.hid (show Below w.heap.size w (((w.alloc (.cells #[(.int .i64 p), (.int .i64 q)] 34)).alloc (.cells #[(.int .i64 0), (.int .i64 0)] 34)).alloc (.cells #[(.int .i64 1), (.int .i64 1)] 34)) by go_grown)
  have F := Lib.hid (show Blk2 (((w.alloc (.cells #[(.int .i64 p), (.int .i64 q)] 34)).alloc (.cells #[(.int .i64 0), (.int .i64 0)] 34)).alloc (.cells #[(.int .i64 1), (.int .i64 1)] 34)) w.heap.size 34 p q from heap_alloc (heap_alloc heap_new))
  have Z := Lib.hid (show Blk2 (((w.alloc (.cells #[(.int .i64 p), (.int .i64 q)] 34)).alloc (.cells #[(.int .i64 0), (.int .i64 0)] 34)).alloc (.cells #[(.int .i64 1), (.int .i64 1)] 34)) (w.heap.size + 1) 34 0 0 from heap_alloc (heap_new' (by simp)))
  have M := Lib.hid (show Blk2 (((w.alloc (.cells #[(.int .i64 p), (.int .i64 q)] 34)).alloc (.cells #[(.int .i64 0), (.int .i64 0)] 34)).alloc (.cells #[(.int .i64 1), (.int .i64 1)] 34)) (w.heap.size + 2) 34 1 1 from heap_new' (by simp))
  generalize ((w.alloc (.cells #[(.int .i64 p), (.int .i64 q)] 34)).alloc (.cells #[(.int .i64 0), (.int .i64 0)] 34)).alloc (.cells #[(.int .i64 1), (.int .i64 1)] 34) = W at *
  go_loopw [6, 7] (fun i _ wr => ∃ (j x y : Int), i = (.int .i64 (j + 1)) ∧ 0 ≤ j ∧ j ≤ n ∧ Hid (NxI p q n r s j x y) ∧ Hid (Below w.heap.size w wr) ∧ Hid (Blk2 wr w.heap.size 34 p q) ∧ Hid (Blk2 wr (w.heap.size + 1) 34 0 0) ∧ Hid (Blk2 wr (w.heap.size + 2) 34 x y)) (fun i _ _ => (n + 1 - intOf i).toNat)
  case atStart => exact ⟨0, 1, 1, rfl, by omega, by omega, HS, T, F, Z, M⟩
  case round =>
    clear HS T F Z M
    obtain ⟨j, x, y, rfl, hj0, hj, HI, T, F, Z, M⟩ := hrel
    by_cases hlt : j < n
    · obtain ⟨r0, r1⟩ := HB.out (j + 1) (by omega)
      have hst := Lib.hid (HT.out j x y hj0 (by omega) HI.out)
      obtain ⟨x0, x1, y1, yn, -⟩ := HI.out
      obtain ⟨b0, b1⟩ := mul_bd (A := 2000) (B := 2000) (show -2000 ≤ p by omega) (by omega) (show -2000 ≤ j + 1 by omega) (by omega)
      have hpi : 0 ≤ p * (j + 1) := Int.mul_nonneg hp (by omega)
      have hd1 : p * (j + 1) / q + 1 = nxR p q (j + 1) := rfl
      have hd2 : (p * (j + 1)).tdiv q + 1 = nxR p q (j + 1) := by rw [Int.tdiv_eq_ediv_of_nonneg hpi]; rfl
      generalize nxR p q (j + 1) = R at *
      obtain ⟨c0, c1⟩ := mul_bd (A := 2000) (B := 2000) (show -2000 ≤ R by omega) (by omega) (show -2000 ≤ y by omega) (by omega)
      obtain ⟨d0, d1⟩ := mul_bd (A := 2000) (B := 2000) (show -2000 ≤ x by omega) (by omega) (show -2000 ≤ j + 1 by omega) (by omega)
      have HC := Lib.hid (fun W => compare_any R (j + 1) x y W (by omega) (by omega))
      obtain ⟨⟨f0, f1⟩, -, hlf⟩ := F.out.open_
      obtain ⟨⟨m0, m1⟩, ⟨m2, m3⟩, hlm⟩ := M.out.open_
      have T' := Lib.hid (T.out.alloc T.out.size (.cells #[(.int .i64 R), (.int .i64 (j + 1))] 34))
      have F' := Lib.hid (show Blk2 (wr.alloc (.cells #[(.int .i64 R), (.int .i64 (j + 1))] 34)) w.heap.size 34 p q from heap_alloc F.out)
      have Z' := Lib.hid (show Blk2 (wr.alloc (.cells #[(.int .i64 R), (.int .i64 (j + 1))] 34)) (w.heap.size + 1) 34 0 0 from heap_alloc Z.out)
      have M' := Lib.hid (show Blk2 (wr.alloc (.cells #[(.int .i64 R), (.int .i64 (j + 1))] 34)) (w.heap.size + 2) 34 x y from heap_alloc M.out)
      have G' := Lib.hid (show Blk2 (wr.alloc (.cells #[(.int .i64 R), (.int .i64 (j + 1))] 34)) wr.heap.size 34 R (j + 1) from heap_new)
      clear HI HT HB HE T F Z M
      go_wp2_with fail
      refine (HC.out _).mono ?_; rintro e w2 ⟨rfl, hb⟩
      replace T' := Lib.hid (bfin T'.out hb)
      replace F' := Lib.hid (show Blk2 w2 w.heap.size 34 p q from heap_below F'.out hb)
      replace Z' := Lib.hid (show Blk2 w2 (w.heap.size + 1) 34 0 0 from heap_below Z'.out hb)
      replace M' := Lib.hid (show Blk2 w2 (w.heap.size + 2) 34 x y from heap_below M'.out hb)
      replace G' := Lib.hid (show Blk2 w2 wr.heap.size 34 R (j + 1) from heap_below G'.out hb)
      have hgm : w.heap.size + 2 < wr.heap.size := hlm
      clear hb f0 f1 hlf m0 m1 m2 m3 hlm HC hd1 hd2
      generalize wr.heap.size = g at *
      obtain ⟨⟨m0, m1⟩, ⟨m2, m3⟩, hlm⟩ := M'.out.open_
      obtain ⟨⟨g0, g1⟩, -, hlg⟩ := G'.out.open_
      have hne0 : w.heap.size ≠ w.heap.size + 2 := by omega
      have hne1 : w.heap.size + 1 ≠ w.heap.size + 2 := by omega
      have hsg : (sg (R * y - x * (j + 1)) < 0) = (R * y - x * (j + 1) < 0) := sg_neg
      generalize hV : R * y - x * (j + 1) = V at *
      clear hV
      by_cases hlt2 : V < 0
      · have hlt3 : sg V < 0 := by rw [hsg]; exact hlt2
        have HN := Lib.hid (hst.out.1 hlt2)
        clear hst hsg hlt2
        generalize sg V = z at *
        go_wp2_with fail
        go_roundw
        case rel => exact ⟨j + 1, R, j + 1, rfl, by omega, by omega, HN, Lib.hid ((T'.out.setCell (p := ⟨w.heap.size + 2, 0, none⟩) (by show _ ≤ w.heap.size + 2; omega) _).setCell (p := ⟨w.heap.size + 2, 1, none⟩) (by show _ ≤ w.heap.size + 2; omega) _), Lib.hid (heap_keep (heap_keep F'.out hne0) hne0), Lib.hid (heap_keep (heap_keep Z'.out hne1) hne1), Lib.hid (heap_set2 M'.out)⟩
        case measure => simp [intOf]; omega
      · have hlt3 : ¬ sg V < 0 := by rw [hsg]; exact hlt2
        have hge : 0 ≤ V := by omega
        have HN := Lib.hid (hst.out.2 hge)
        clear hst hsg hlt2
        generalize sg V = z at *
        go_wp2_with fail
        go_roundw
        case rel => exact ⟨j + 1, x, y, rfl, by omega, by omega, HN, T', F', Z', M'⟩
        case measure => simp [intOf]; omega
    · obtain rfl : j = n := by omega
      obtain ⟨rfl, rfl⟩ := HE.out _ _ HI.out
      obtain ⟨⟨m0, m1⟩, -, hlm⟩ := M.out.open_
      obtain ⟨⟨z0, z1⟩, ⟨z2, z3⟩, hlz⟩ := Z.out.open_
      clear HE HT HB HI
      go_wp2_with fail
      refine bodyPost_ret (v := (.agg #[.int .i64 x, .int .i64 y])) (by first | (simp [results, Tryz.results35, go_sem]; done) | (simp [results, Tryz.results35, go_sem, set2_0 Z.out, set2_1 Z.out] <;> rfl)) rfl ?_
      exact ⟨rfl, (T.out.setCell (p := ⟨w.heap.size + 1, 0, none⟩) (by show _ ≤ w.heap.size + 1; omega) _).setCell (p := ⟨w.heap.size + 1, 1, none⟩) (by show _ ≤ w.heap.size + 1; omega) _⟩
set_option maxRecDepth 100000 in
set_option maxHeartbeats 2000000 in
theorem l03Next_any (n p q r s : Int) (w : World) (hq : 0 < q) (hp : 0 ≤ p) (hpq : p < q) (hqn : q ≤ n) (hn : n ≤ 1000) (h : NxT p q n r s) :
    Calls Tryz.prog 37 #[(.int .i64 n), (.agg #[.int .i64 p, .int .i64 q])] w fun e w' => e = .returned (.agg #[.int .i64 r, .int .i64 s]) ∧ Below w.heap.size w w' := by
  have HT := Lib.hid h.top
  have s1 := h.s1
  have sn := h.sn
  have HD := Lib.hid h.det
  clear h
  go_enter Tryz.func37, Tryz.ntmps37
  go_wp2_with fail
  have T := Lib.hid (show Below w.heap.size w ((w.alloc (.cells #[(.int .i64 p), (.int .i64 q)] 34)).alloc (.cells #[(.int .i64 0), (.int .i64 0)] 34)) by go_grown)
  have F := Lib.hid (show Blk2 ((w.alloc (.cells #[(.int .i64 p), (.int .i64 q)] 34)).alloc (.cells #[(.int .i64 0), (.int .i64 0)] 34)) w.heap.size 34 p q from heap_alloc heap_new)
  have Z := Lib.hid (show Blk2 ((w.alloc (.cells #[(.int .i64 p), (.int .i64 q)] 34)).alloc (.cells #[(.int .i64 0), (.int .i64 0)] 34)) (w.heap.size + 1) 34 0 0 from heap_new' (by simp))
  generalize (w.alloc (.cells #[(.int .i64 p), (.int .i64 q)] 34)).alloc (.cells #[(.int .i64 0), (.int .i64 0)] 34) = W at *
  go_loopw [5] (fun i wr => ∃ j : Int, i = (.int .i64 j) ∧ s ≤ j ∧ j ≤ n ∧ Hid (Below w.heap.size w wr) ∧ Hid (Blk2 wr w.heap.size 34 p q) ∧ Hid (Blk2 wr (w.heap.size + 1) 34 0 0)) (fun i _ => (intOf i).toNat)
  case atStart => exact ⟨n, rfl, sn, Int.le_refl _, T, F, Z⟩
  case round =>
    clear T F Z
    obtain ⟨j, rfl, hj0, hj, T, F, Z⟩ := hrel
    have hj1 : 0 < j := by omega
    obtain ⟨b0, b1⟩ := mul_bd (A := 2000) (B := 2000) (show -2000 ≤ p by omega) (by omega) (show -2000 ≤ j by omega) (by omega)
    have hpi : 0 ≤ p * j := Int.mul_nonneg hp (by omega)
    obtain ⟨⟨f0, f1⟩, -, hlf⟩ := F.out.open_
    obtain ⟨⟨z0, z1⟩, ⟨z2, z3⟩, hlz⟩ := Z.out.open_
    by_cases he : j = s
    · subst he
      have hdet := HD.out
      have e1 : 1 + p * j = q * r := by omega
      have hm1 : ((1 + p * j) % q == 0) = true := by rw [e1]; simp
      have hm2 : ((1 + p * j).tmod q == 0) = true := by rw [e1]; simp
      have hd1 : (1 + p * j) / q = r := by rw [e1]; exact Int.mul_ediv_cancel_left r (by omega)
      have hd2 : (1 + p * j).tdiv q = r := by rw [e1]; exact Int.mul_tdiv_cancel_left r (by omega)
      have hr0 : 0 ≤ r := by rw [← hd1]; exact Int.ediv_nonneg (by omega) (by omega)
      have hr1 : r ≤ 1 + p * j := by rw [← hd1]; exact Int.ediv_le_self _ (by omega)
      clear hdet e1 HT HD
      go_wp2_with fail
      refine bodyPost_ret (v := (.agg #[.int .i64 r, .int .i64 j])) (by first | (simp [results, Tryz.results37, go_sem]; done) | (simp [results, Tryz.results37, go_sem, set2_0 Z.out, set2_1 Z.out] <;> rfl)) rfl ?_
      exact ⟨rfl, (T.out.setCell (p := ⟨w.heap.size + 1, 0, none⟩) (by show _ ≤ w.heap.size + 1; omega) _).setCell (p := ⟨w.heap.size + 1, 1, none⟩) (by show _ ≤ w.heap.size + 1; omega) _⟩
    · have hnd := HT.out j (by omega) hj
      have hm1 : ((1 + p * j) % q == 0) = false := by
        rw [beq_eq_false_iff_ne]; intro e; exact hnd (Int.dvd_of_emod_eq_zero e)
      have hm2 : ((1 + p * j).tmod q == 0) = false := by
        rw [Int.tmod_eq_emod_of_nonneg (by omega)]; exact hm1
      clear hnd HT
      go_wp2_with fail
      go_roundw
      case rel => exact ⟨j - 1, rfl, by omega, by omega, T, F, Z⟩
      case measure => simp [intOf]; omega
end Go.Proofs.YtjnkogkpdbgohaaGreatDoor
