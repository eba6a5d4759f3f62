/- Draws of matrices: powers. -/
import Derived.Test.YtjnkogkpdbgohaaGreatDoorD11
namespace Go.Proofs.YtjnkogkpdbgohaaGreatDoor
open Go.RowKit
set_option maxRecDepth 1000000 in
set_option maxHeartbeats 4000000 in
theorem l01Power_any (a b c d k : Int) (w : World) (h : EM a b c d) (hk : 0 ≤ k ∧ k ≤ 1000000) :
    Calls Tryz.prog 92 #[(.agg #[.int .i64 a, .int .i64 b, .int .i64 c, .int .i64 d]), (.int .i64 k)] w fun e w' => RetMB e ∧ Below w.heap.size w w' := by
  have HK := Lib.hid (fun W => l01Kind_em a b c d W h)
  have HE := Lib.hid h
  clear h
  go_enter Tryz.func92, Tryz.ntmps92
  go_wp2_with fail
  refine (HK.out _).mono ?_; rintro e w1 ⟨⟨kd, rfl⟩, hb1⟩
  have B0 := Lib.hid (show Bm w1 w.heap.size a b c d from heap_below (heap_alloc (heap_alloc heap_new)) hb1)
  have B1 := Lib.hid (show Bm w1 (w.heap.size + 1) 0 0 0 0 from heap_below (heap_alloc (heap_new' (by simp))) hb1)
  have B2 := Lib.hid (show Bm w1 (w.heap.size + 2) 1 0 0 1 from heap_below (heap_new' (by simp)) hb1)
  have T1 := Lib.hid (show Below w.heap.size w w1 from bfin (by go_grown) hb1)
  clear hb1 HK
  by_cases hkd : kd < 2
  · have hk0 := Int.emod_nonneg k (show (12 : Int) ≠ 0 by omega)
    have hk1 := Int.emod_lt_of_pos k (show (0 : Int) < 12 by omega)
    go_wp2_with fail
    go_loopw [1] (fun x wr => ∃ (j : Nat) (p q r s : Int), x = (.int .i64 ((j : Int))) ∧ j ≤ 12 ∧ Hid (EM p q r s ∧ Bm wr (w.heap.size + 2) p q r s ∧ Bm wr (w.heap.size + 1) 0 0 0 0 ∧ Bm wr w.heap.size a b c d) ∧ Hid (Below w.heap.size w wr)) (fun x _ => (intOf x).toNat)
    case atStart => exact ⟨(k % 12).toNat, 1, 0, 0, 1, by congr 1; omega, by omega, Lib.hid ⟨EM.one, B2.out, B1.out, B0.out⟩, T1⟩
    case round =>
      clear B0 B1 B2 T1 hk0 hk1
      obtain ⟨j, p, q, r, s, rfl, hj, HP, T1⟩ := hrel
      by_cases hj0 : 0 < j
      · have hj0' : (0 : Int) < (j : Int) := by omega
        obtain ⟨⟨c0, c1, c2, c3⟩, ⟨f0, f1, f2, f3⟩, hl4⟩ := HP.out.2.1.open_
        obtain ⟨⟨z0, z1, z2, z3⟩, ⟨g0, g1, g2, g3⟩, hl2⟩ := HP.out.2.2.2.open_
        go_wp2_with fail
        refine (l01Times_em p q r s a b c d wr HP.out.1 HE.out).mono ?_; rintro e w2 ⟨⟨x, y, z, u, ok, rfl, hx⟩, hb2⟩
        have HX := Lib.hid hx
        have C0 := Lib.hid (HP.out.2.2.2.below hb2)
        have C1 := Lib.hid (HP.out.2.2.1.below hb2)
        have C2 := Lib.hid (HP.out.2.1.below hb2)
        have T2 := Lib.hid (bfin T1.out hb2)
        clear c0 c1 c2 c3 f0 f1 f2 f3 hl4 z0 z1 z2 z3 g0 g1 g2 g3 hl2 HP T1 hb2 hx
        obtain ⟨⟨c0, c1, c2, c3⟩, ⟨f0, f1, f2, f3⟩, hl4⟩ := C2.out.open_
        go_wp2_with fail
        go_roundw
        case rel => exact ⟨j - 1, x, y, z, u, by congr 1; omega, by omega, Lib.hid ⟨HX.out, heap_set4 C2.out, C1.out.far _ _ _ _ (by omega), C0.out.far _ _ _ _ (by omega)⟩, Lib.hid (below_set4 T2.out (by omega))⟩
        case measure => simp [intOf]; omega
      · obtain rfl : j = 0 := by omega
        obtain ⟨⟨c0, c1, c2, c3⟩, ⟨f0, f1, f2, f3⟩, hl4⟩ := HP.out.2.1.open_
        obtain ⟨⟨z0, z1, z2, z3⟩, ⟨g0, g1, g2, g3⟩, hl2⟩ := HP.out.2.2.1.open_
        have BZ := Lib.hid HP.out.2.2.1
        have HX := Lib.hid HP.out.1
        clear HP
        go_wp2_with fail
        refine bodyPost_ret (v := .tuple #[(.agg #[.int .i64 p, .int .i64 q, .int .i64 r, .int .i64 s]), .bool true]) (by simp [results, Tryz.results92, go_sem, set4_0 BZ.out, set4_1 BZ.out, set4_2 BZ.out, set4_3 BZ.out] <;> rfl) rfl ?_
        exact ⟨⟨_, _, _, _, _, rfl, HX.out⟩, below_set4 T1.out (by omega)⟩
  · obtain ⟨⟨c0, c1, c2, c3⟩, ⟨f0, f1, f2, f3⟩, hl0⟩ := B0.out.open_
    go_wp2_with fail
    clear c0 c1 c2 c3 f0 f1 f2 f3 hl0 B0
    go_loopw [1, 8, 9] (fun x ok b9 wr => ∃ (j : Nat) (o : Bool) (g : Nat) (p q r s p' q' r' s' : Int), x = (.int .i64 ((j : Int))) ∧ ok = .bool o ∧ b9 = .pointer (some ⟨g, 0, none⟩) ∧ j ≤ 1000000 ∧ w.heap.size + 2 < g ∧ Hid (EM p q r s ∧ EM p' q' r' s' ∧ Bm wr (w.heap.size + 2) p q r s ∧ Bm wr g p' q' r' s' ∧ Bm wr (w.heap.size + 1) 0 0 0 0) ∧ Hid (Below w.heap.size w wr)) (fun x _ _ _ => (intOf x).toNat)
    case atStart => exact ⟨k.toNat, true, w1.heap.size, 1, 0, 0, 1, a, b, c, d, by congr 1; omega, rfl, rfl, by omega, B2.out.lt, Lib.hid ⟨EM.one, HE.out, B2.out.alloc _, Bm.new, B1.out.alloc _⟩, Lib.hid (T1.out.alloc T1.out.size _)⟩
    case round =>
      clear B1 B2 T1 HE hk
      obtain ⟨j, o, g, p, q, r, s, p', q', r', s', rfl, rfl, rfl, hj, hg, HP, T1⟩ := hrel
      have HO := Lib.hid HP.out.1
      have HQ := Lib.hid HP.out.2.1
      have B2 := Lib.hid HP.out.2.2.1
      have B9 := Lib.hid HP.out.2.2.2.1
      have B1 := Lib.hid HP.out.2.2.2.2
      clear HP
      obtain ⟨⟨c0, c1, c2, c3⟩, ⟨f0, f1, f2, f3⟩, hl4⟩ := B2.out.open_
      obtain ⟨⟨d0, d1, d2, d3⟩, ⟨i0, i1, i2, i3⟩, hl9⟩ := B9.out.open_
      have hgo : o = true ∧ 0 < j ∨ ¬ (o = true ∧ 0 < j) := Decidable.em _
      rcases hgo with ⟨rfl, hj0⟩ | hgo
      · have hj0' : (0 : Int) < (j : Int) := by omega
        have hjn : ¬ (j : Int) ≤ 0 := by omega
        by_cases hodd : (j : Int) % 2 = 1
        · have hodd' : ((j : Int) % 2 == 1) = true := by simpa using hodd
          go_wp2_with fail
          refine (l01Times_em p q r s p' q' r' s' wr HO.out HQ.out).mono ?_; rintro e w3 ⟨⟨x, y, z, u, ok, rfl, hx⟩, hb3⟩
          have HX := Lib.hid hx
          have T3 := Lib.hid (bfin T1.out hb3)
          have D1 := Lib.hid (B1.out.below hb3)
          have D2 := Lib.hid (B2.out.below hb3)
          have D9 := Lib.hid (B9.out.below hb3)
          clear hb3 hx c0 c1 c2 c3 f0 f1 f2 f3 hl4 d0 d1 d2 d3 i0 i1 i2 i3 hl9 B1 B2 B9 T1
          obtain ⟨⟨c0, c1, c2, c3⟩, ⟨f0, f1, f2, f3⟩, hl4⟩ := D2.out.open_
          obtain ⟨⟨d0, d1, d2, d3⟩, ⟨i0, i1, i2, i3⟩, hl9⟩ := D9.out.open_
          have hne : w.heap.size + 2 ≠ g := by omega
          have hne' : g ≠ w.heap.size + 2 := by omega
          cases ok
          · by_cases hj1 : (1 : Int) < (j : Int)
            all_goals
              go_wp2_with fail
              go_roundw
              case rel => exact ⟨j / 2, false, w3.heap.size, x, y, z, u, p', q', r', s', by first | rfl | (congr 1; omega), rfl, by first | rfl | (congr 2 <;> simp), by omega, by have := (D2.out).lt; omega, Lib.hid ⟨HX.out, HQ.out, (D2.out.set _ _ _ _).alloc _, Bm.newE (by simp), (D1.out.far _ _ _ _ (by omega)).alloc _⟩, Lib.hid (below_set4a T3.out (by omega) T3.out.size)⟩
              case measure => simp [intOf]; omega
          · by_cases hj1 : 1 < j
            · have hj1' : (1 : Int) < (j : Int) := by omega
              go_wp2_with fail
              refine (l01Times_em p' q' r' s' p' q' r' s' _ HQ.out HQ.out).mono ?_; rintro e w4 ⟨⟨x2, y2, z2, u2, ok2, rfl, hx2⟩, hb4⟩
              have HX2 := Lib.hid hx2
              have T4 := Lib.hid (bfin (below_set4 T3.out (by omega)) hb4)
              have E1 := Lib.hid ((D1.out.far _ _ _ _ (by omega)).below hb4)
              have E2 := Lib.hid ((D2.out.set _ _ _ _).below hb4)
              have E9 := Lib.hid ((D9.out.far _ _ _ _ (by omega)).below hb4)
              clear hb4 hx2 c0 c1 c2 c3 f0 f1 f2 f3 hl4 d0 d1 d2 d3 i0 i1 i2 i3 hl9 D1 D2 D9 T3
              obtain ⟨⟨c0, c1, c2, c3⟩, ⟨f0, f1, f2, f3⟩, hl4⟩ := E9.out.open_
              go_wp2_with fail
              go_roundw
              case rel => exact ⟨j / 2, ok2, w4.heap.size, x, y, z, u, x2, y2, z2, u2, by first | rfl | (congr 1; omega), rfl, by first | rfl | (congr 2 <;> simp), by omega, by have := (E2.out).lt; omega, Lib.hid ⟨HX.out, HX2.out, (E2.out.far _ _ _ _ (by omega)).alloc _, Bm.newE (by simp), (E1.out.far _ _ _ _ (by omega)).alloc _⟩, Lib.hid (below_set4a T4.out (by omega) T4.out.size)⟩
              case measure => simp [intOf]; omega
            · have hj1' : ¬ (1 : Int) < (j : Int) := by omega
              go_wp2_with fail
              go_roundw
              case rel => exact ⟨j / 2, true, w3.heap.size, x, y, z, u, p', q', r', s', by first | rfl | (congr 1; omega), rfl, by first | rfl | (congr 2 <;> simp), by omega, by have := (D2.out).lt; omega, Lib.hid ⟨HX.out, HQ.out, (D2.out.set _ _ _ _).alloc _, Bm.newE (by simp), (D1.out.far _ _ _ _ (by omega)).alloc _⟩, Lib.hid (below_set4a T3.out (by omega) T3.out.size)⟩
              case measure => simp [intOf]; omega
        · have hodd' : ((j : Int) % 2 == 1) = false := by simpa using hodd
          have hj1' : (1 : Int) < (j : Int) := by omega
          go_wp2_with fail
          refine (l01Times_em p' q' r' s' p' q' r' s' _ HQ.out HQ.out).mono ?_; rintro e w4 ⟨⟨x2, y2, z2, u2, ok2, rfl, hx2⟩, hb4⟩
          have HX2 := Lib.hid hx2
          have T4 := Lib.hid (bfin T1.out hb4)
          have E1 := Lib.hid ((B1.out).below hb4)
          have E2 := Lib.hid ((B2.out).below hb4)
          have E9 := Lib.hid ((B9.out).below hb4)
          clear hb4 hx2 c0 c1 c2 c3 f0 f1 f2 f3 hl4 d0 d1 d2 d3 i0 i1 i2 i3 hl9 B1 B2 B9 T1
          obtain ⟨⟨c0, c1, c2, c3⟩, ⟨f0, f1, f2, f3⟩, hl4⟩ := E9.out.open_
          go_wp2_with fail
          go_roundw
          case rel => exact ⟨j / 2, ok2, w4.heap.size, p, q, r, s, x2, y2, z2, u2, by first | rfl | (congr 1; omega), rfl, by first | rfl | (congr 2 <;> simp), by omega, by have := (E2.out).lt; omega, Lib.hid ⟨HO.out, HX2.out, (E2.out.far _ _ _ _ (by omega)).alloc _, Bm.newE (by simp), (E1.out.far _ _ _ _ (by omega)).alloc _⟩, Lib.hid (below_set4a T4.out (by omega) T4.out.size)⟩
          case measure => simp [intOf]; omega
      · have hgo' : (decide (0 < (j : Int)) && o) = false := by
          rcases Nat.eq_zero_or_pos j with rfl | h
          · simp
          · cases o
            · simp
            · exact absurd ⟨rfl, h⟩ hgo
        obtain ⟨⟨z0, z1, z2, z3⟩, ⟨g0, g1, g2, g3⟩, hl2⟩ := B1.out.open_
        by_cases hj0 : 0 < j
        · have hj0' : (0 : Int) < (j : Int) := by omega
          have ho : o = false := by
            cases o
            · rfl
            · exact absurd ⟨rfl, hj0⟩ hgo
          subst ho
          clear hgo hgo'
          go_wp2_with fail
          refine bodyPost_ret (v := .tuple #[(.agg #[.int .i64 p, .int .i64 q, .int .i64 r, .int .i64 s]), .bool false]) (by simp [results, Tryz.results92, go_sem, set4_0 B1.out, set4_1 B1.out, set4_2 B1.out, set4_3 B1.out] <;> rfl) rfl ?_
          exact ⟨⟨_, _, _, _, _, rfl, HO.out⟩, below_set4 T1.out (by omega)⟩
        · obtain rfl : j = 0 := by omega
          clear hgo hgo'
          go_wp2_with fail
          refine bodyPost_ret (v := .tuple #[(.agg #[.int .i64 p, .int .i64 q, .int .i64 r, .int .i64 s]), .bool o]) (by simp [results, Tryz.results92, go_sem, set4_0 B1.out, set4_1 B1.out, set4_2 B1.out, set4_3 B1.out] <;> rfl) rfl ?_
          exact ⟨⟨_, _, _, _, _, rfl, HO.out⟩, below_set4 T1.out (by omega)⟩
end Go.Proofs.YtjnkogkpdbgohaaGreatDoor
