/- Contracts: RootOf, the program's own (written by gen_c81.py). -/
import Derived.Test.YtencfmipplgnkaaC81
namespace Go.Proofs.Ytencfmipplgnkaa
open Go.RowKit
set_option maxRecDepth 100000 in
theorem idxMat0 (x y z u : Value) (w : World) : (Instr.index 40 (.agg #[x, y, z, u]) (.int .i64 0)).run Try.prog w = .ok x w := by kernel_rfl
theorem idxMat1 (x y z u : Value) (w : World) : (Instr.index 40 (.agg #[x, y, z, u]) (.int .i64 1)).run Try.prog w = .ok y w := by kernel_rfl
theorem idxMat2 (x y z u : Value) (w : World) : (Instr.index 40 (.agg #[x, y, z, u]) (.int .i64 2)).run Try.prog w = .ok z w := by kernel_rfl
theorem idxMat3 (x y z u : Value) (w : World) : (Instr.index 40 (.agg #[x, y, z, u]) (.int .i64 3)).run Try.prog w = .ok u w := by kernel_rfl
attribute [local go_sem] idxMat0 idxMat1 idxMat2 idxMat3
set_option maxRecDepth 100000 in
set_option maxHeartbeats 4000000 in
theorem RootOf_any (a b c d : Int) (w : World) :
    Calls Try.prog 32 #[(.agg #[.int .i64 a, .int .i64 b, .int .i64 c, .int .i64 d])] w fun e w' => e = .returned (.tuple #[(.agg #[.int .i64 ((rtR a b c d).1.1.a), .int .i64 ((rtR a b c d).1.1.b), .int .i64 ((rtR a b c d).1.1.c), .int .i64 ((rtR a b c d).1.1.d)]), (.int .i64 ((rtR a b c d).1.2)), (.int .i64 ((rtR a b c d).2))]) ∧ Below w.heap.size w w' := by
  have H0 := Lib.hid (fun W => kindCode_any a b c d 3 W)
  by_cases hk : kcode a b c d 3 = 0
  · obtain ⟨hM, h3⟩ := kcode_zero hk
    have HT := Lib.hid (fun W => trace_any a b c d W hM)
    have hM' := hM
    obtain ⟨i1, i2, i3, i4, i5, i6, i7, i8, -⟩ := hM'
    rw [show rtR a b c d = (rootR (posM a b c d) ((posM a b c d).a + (posM a b c d).d) 40, 0) from if_pos hk]
    rw [hk] at H0
    have HB := posM_bd hM h3
    have hM2 := posM_mat hM
    have HG := Lib.hid (rootR_30 (m := posM a b c d) (t := (posM a b c d).a + (posM a b c d).d) (by have := HB.a; have := HB.d; omega))
    rw [← HG.out]
    clear HG hk
    by_cases hneg : a + d < 0
    · rw [show posM a b c d = ⟨-a, -b, -c, -d⟩ from if_pos hneg] at HB hM2 ⊢
      simp only at HB hM2 ⊢
      have HNg := Lib.hid (fun W => negative_any a b c d W (by omega) (by omega) (by omega) (by omega) (by omega) (by omega) (by omega) (by omega))
      obtain ⟨A, hA⟩ : ∃ A, A = -a := ⟨_, rfl⟩
      obtain ⟨B, hB⟩ : ∃ B, B = -b := ⟨_, rfl⟩
      obtain ⟨C, hC⟩ : ∃ C, C = -c := ⟨_, rfl⟩
      obtain ⟨D, hD⟩ : ∃ D, D = -d := ⟨_, rfl⟩
      rw [← hA, ← hB, ← hC, ← hD] at HB hM2 HNg ⊢
      clear hA hB hC hD
      obtain ⟨⟨A0, A1⟩, ⟨B0, B1⟩, ⟨C0, C1⟩, ⟨D0, D1⟩, t3⟩ := HB
      obtain ⟨G, hG⟩ : ∃ G, G = rootR ⟨A, B, C, D⟩ (A + D) 30 := ⟨_, rfl⟩
      rw [← hG]
      have HG := Lib.hid hG
      clear hG
      go_enter Try.func32, Try.ntmps32
      go_wp2_with fail
      refine (H0.out _).mono ?_; rintro e w1 ⟨rfl, hb1⟩
      obtain ⟨hc1, hf1⟩ := bcell hb1
      obtain ⟨hz0, hz1⟩ : w.heap.size < w1.heap.size ∧ w.heap.size + 1 < w1.heap.size := by have := hb1.size; (try simp at this); omega
      go_wp2_with fail
      refine (HT.out _).mono ?_; rintro e w2 ⟨rfl, hb2⟩
      replace hb2 := bstep hb1 hb2
      clear hc1 hf1 hb1
      obtain ⟨hc2, hf2⟩ := bcell hb2
      obtain ⟨hz0, hz1⟩ : w.heap.size < w2.heap.size ∧ w.heap.size + 1 < w2.heap.size := by have := hb2.size; (try simp at this); omega
      go_wp2_with fail
      refine (HNg.out _).mono ?_; rintro e w3 ⟨rfl, hb3⟩
      replace hb3 := bstep hb2 hb3
      clear hc2 hf2 hb2
      obtain ⟨hc3, hf3⟩ := bcell hb3
      obtain ⟨hz0, hz1⟩ : w.heap.size < w3.heap.size ∧ w.heap.size + 1 < w3.heap.size := by have := hb3.size; (try simp at this); omega
      go_wp2_with fail
      have X0 := Lib.hid (show Blk4 ((((w3.setCell ⟨w.heap.size, 0, none⟩ (.int .i64 A)).setCell ⟨w.heap.size, 1, none⟩ (.int .i64 B)).setCell ⟨w.heap.size, 2, none⟩ (.int .i64 C)).setCell ⟨w.heap.size, 3, none⟩ (.int .i64 D)) w.heap.size 40 A B C D from heap_set4 (by exact heap_below (heap_alloc heap_new) hb3))
      have X1 := Lib.hid (show Blk4 ((((w3.setCell ⟨w.heap.size, 0, none⟩ (.int .i64 A)).setCell ⟨w.heap.size, 1, none⟩ (.int .i64 B)).setCell ⟨w.heap.size, 2, none⟩ (.int .i64 C)).setCell ⟨w.heap.size, 3, none⟩ (.int .i64 D)) (w.heap.size + 1) 40 0 0 0 0 from heap_keep (heap_keep (heap_keep (heap_keep (by exact heap_below (heap_new' (by simp)) hb3) (by omega)) (by omega)) (by omega)) (by omega))
      have hBW : Below w.heap.size w ((((w3.setCell ⟨w.heap.size, 0, none⟩ (.int .i64 A)).setCell ⟨w.heap.size, 1, none⟩ (.int .i64 B)).setCell ⟨w.heap.size, 2, none⟩ (.int .i64 C)).setCell ⟨w.heap.size, 3, none⟩ (.int .i64 D)) := by have hB3 : Below w.heap.size w w3 := bfin (by go_grown) hb3; go_grown
      clear hb3 hc3 hf3
      generalize ((((w3.setCell ⟨w.heap.size, 0, none⟩ (.int .i64 A)).setCell ⟨w.heap.size, 1, none⟩ (.int .i64 B)).setCell ⟨w.heap.size, 2, none⟩ (.int .i64 C)).setCell ⟨w.heap.size, 3, none⟩ (.int .i64 D)) = W0 at *
      have hsW := hBW.size
      go_loopw [6] (fun u wr => ∃ j : Nat, u = (.int .i64 ((j : Int))) ∧ 1 ≤ j ∧ j ≤ 30 ∧ Hid (G = rootR ⟨A, B, C, D⟩ (A + D) j) ∧ Below W0.heap.size W0 wr) (fun u _ => (intOf u).toNat)
      case atStart => exact ⟨30, rfl, by omega, by omega, HG, Below.refl _ _⟩
      case round =>
        obtain ⟨j, rfl, j1, j30, HJ, hb⟩ := hrel
        have hbw : Below w.heap.size w wr := hBW.trans (hb.mono hsW)
        obtain ⟨⟨g00, g01, g02, g03⟩, ⟨-, -, -, -⟩, l0⟩ := Blk4.open_ (heap_below X0.out hb)
        obtain ⟨⟨g10, g11, g12, g13⟩, ⟨f10, f11, f12, f13⟩, l1⟩ := Blk4.open_ (heap_below X1.out hb)
        by_cases h1 : 1 < j
        · have HTr := Lib.hid (fun W => trace_any A B C D W hM2)
          have HTo := Lib.hid (fun W => traceOfRoot_any (A + D) j W (by omega) (by omega) t3 (by omega))
          by_cases hx : ∃ s, 3 ≤ s ∧ tr s j = A + D
          · obtain ⟨s, s3, hs⟩ := hx
            have hj : 2 ≤ j := by omega
            have s4 := root_small hj s3 (by omega) hs
            have HP := Lib.hid (fun W => powers_any s j W s3 (by omega) (by omega) (by omega))
            rw [pwV_ok (show tr s j ≤ 4000000000 by rw [hs]; omega), hs] at HP
            rw [torV_yes (by omega) s3 hs] at HTo
            obtain ⟨u0, u1, v0, v1⟩ := rootBd hj s3 (show A + D ≤ 2000000000 by omega) hs
            have HNo := Lib.hid (fun h => rootR_no (m := ⟨A, B, C, D⟩) (t := A + D) hj (no_hit_at (m := ⟨A, B, C, D⟩) (show 1 ≤ j by omega) s3 hs h))
            have HYes := Lib.hid (show (A + un s (j - 1)) % un s j = 0 → B % un s j = 0 → C % un s j = 0 → (D + un s (j - 1)) % un s j = 0 → rootR ⟨A, B, C, D⟩ (A + D) j = (⟨(A + un s (j - 1)) / un s j, B / un s j, C / un s j, (D + un s (j - 1)) / un s j⟩, (j : Int)) from fun e1 e2 e3 e4 => rootR_hit (m := ⟨A, B, C, D⟩) hj (Hit.mk s3 hs e1 e2 e3 e4))
            clear hs
            simp only at HNo
            generalize un s j = U at *
            generalize un s (j - 1) = V at *
            have hU : U ≠ 0 := by omega
            obtain ⟨qa0, qa1⟩ := qBd (x := A + V) (u := U) (by omega)
            obtain ⟨qb0, qb1⟩ := qBd (x := B) (u := U) (by omega)
            obtain ⟨qc0, qc1⟩ := qBd (x := C) (u := U) (by omega)
            obtain ⟨qd0, qd1⟩ := qBd (x := D + V) (u := U) (by omega)
            obtain ⟨o1, p1⟩ : ∃ v, ((A + V).tmod U == 0) = v := ⟨_, rfl⟩
            obtain ⟨o2, p2⟩ : ∃ v, (B.tmod U == 0) = v := ⟨_, rfl⟩
            obtain ⟨o3, p3⟩ : ∃ v, (C.tmod U == 0) = v := ⟨_, rfl⟩
            obtain ⟨o4, p4⟩ : ∃ v, ((D + V).tmod U == 0) = v := ⟨_, rfl⟩
            have I1 := Lib.hid (tmod_b p1)
            have I2 := Lib.hid (tmod_b p2)
            have I3 := Lib.hid (tmod_b p3)
            have I4 := Lib.hid (tmod_b p4)
            cases o1
            · have HN := Lib.hid (HNo.out (fun h => by have := I1.out.2 (h.1); exact absurd this (by simp)))
              go_wp2_with fail
              go_wp2_with fail
              refine (HTr.out _).mono ?_; rintro e w6 ⟨rfl, hb6⟩
              obtain ⟨hc6, hf6⟩ := bcell hb6
              obtain ⟨hz6_0, hz6_1⟩ : w.heap.size < w6.heap.size ∧ w.heap.size + 1 < w6.heap.size := by have := hb6.size; (try simp at this); omega
              have hB6 : Below w.heap.size w w6 := bfin (by go_grown) hb6
              go_wp2_with fail
              refine (HTo.out _).mono ?_; rintro e w' ⟨rfl, rfl⟩
              go_wp2_with fail
              refine (HP.out _).mono ?_; rintro e w' ⟨rfl, rfl⟩
              have hD6 := hb.trans (hb6.mono hb.size)
              have hs6 := hD6.size
              go_wp2_with fail
              refine wp_loop_rounds 5 ?_
              rw [rounds_succ]
              go_wp2_with fail
              rw [rounds_succ]
              go_wp2_with fail
              rw [rounds_succ]
              go_wp2_with fail
              rw [rounds_succ]
              go_wp2_with fail
              rw [rounds_succ]
              go_wp2_with fail
              go_roundw
              case rel => exact ⟨j - 1, by go_num, by omega, by omega, Lib.hid (by rw [← HN.out]; exact HJ.out), by go_grown⟩
              case measure => simp [intOf]; omega
            cases o2
            · have HN := Lib.hid (HNo.out (fun h => by have := I2.out.2 (h.2.1); exact absurd this (by simp)))
              go_wp2_with fail
              go_wp2_with fail
              refine (HTr.out _).mono ?_; rintro e w6 ⟨rfl, hb6⟩
              obtain ⟨hc6, hf6⟩ := bcell hb6
              obtain ⟨hz6_0, hz6_1⟩ : w.heap.size < w6.heap.size ∧ w.heap.size + 1 < w6.heap.size := by have := hb6.size; (try simp at this); omega
              have hB6 : Below w.heap.size w w6 := bfin (by go_grown) hb6
              go_wp2_with fail
              refine (HTo.out _).mono ?_; rintro e w' ⟨rfl, rfl⟩
              go_wp2_with fail
              refine (HP.out _).mono ?_; rintro e w' ⟨rfl, rfl⟩
              have hD6 := hb.trans (hb6.mono hb.size)
              have hs6 := hD6.size
              go_wp2_with fail
              refine wp_loop_rounds 5 ?_
              rw [rounds_succ]
              go_wp2_with fail
              rw [rounds_succ]
              go_wp2_with fail
              rw [rounds_succ]
              go_wp2_with fail
              rw [rounds_succ]
              go_wp2_with fail
              rw [rounds_succ]
              go_wp2_with fail
              go_roundw
              case rel => exact ⟨j - 1, by go_num, by omega, by omega, Lib.hid (by rw [← HN.out]; exact HJ.out), by go_grown⟩
              case measure => simp [intOf]; omega
            cases o3
            · have HN := Lib.hid (HNo.out (fun h => by have := I3.out.2 (h.2.2.1); exact absurd this (by simp)))
              go_wp2_with fail
              go_wp2_with fail
              refine (HTr.out _).mono ?_; rintro e w6 ⟨rfl, hb6⟩
              obtain ⟨hc6, hf6⟩ := bcell hb6
              obtain ⟨hz6_0, hz6_1⟩ : w.heap.size < w6.heap.size ∧ w.heap.size + 1 < w6.heap.size := by have := hb6.size; (try simp at this); omega
              have hB6 : Below w.heap.size w w6 := bfin (by go_grown) hb6
              go_wp2_with fail
              refine (HTo.out _).mono ?_; rintro e w' ⟨rfl, rfl⟩
              go_wp2_with fail
              refine (HP.out _).mono ?_; rintro e w' ⟨rfl, rfl⟩
              have hD6 := hb.trans (hb6.mono hb.size)
              have hs6 := hD6.size
              go_wp2_with fail
              refine wp_loop_rounds 5 ?_
              rw [rounds_succ]
              go_wp2_with fail
              rw [rounds_succ]
              go_wp2_with fail
              rw [rounds_succ]
              go_wp2_with fail
              rw [rounds_succ]
              go_wp2_with fail
              rw [rounds_succ]
              go_wp2_with fail
              go_roundw
              case rel => exact ⟨j - 1, by go_num, by omega, by omega, Lib.hid (by rw [← HN.out]; exact HJ.out), by go_grown⟩
              case measure => simp [intOf]; omega
            cases o4
            · have HN := Lib.hid (HNo.out (fun h => by have := I4.out.2 (h.2.2.2); exact absurd this (by simp)))
              go_wp2_with fail
              go_wp2_with fail
              refine (HTr.out _).mono ?_; rintro e w6 ⟨rfl, hb6⟩
              obtain ⟨hc6, hf6⟩ := bcell hb6
              obtain ⟨hz6_0, hz6_1⟩ : w.heap.size < w6.heap.size ∧ w.heap.size + 1 < w6.heap.size := by have := hb6.size; (try simp at this); omega
              have hB6 : Below w.heap.size w w6 := bfin (by go_grown) hb6
              go_wp2_with fail
              refine (HTo.out _).mono ?_; rintro e w' ⟨rfl, rfl⟩
              go_wp2_with fail
              refine (HP.out _).mono ?_; rintro e w' ⟨rfl, rfl⟩
              have hD6 := hb.trans (hb6.mono hb.size)
              have hs6 := hD6.size
              go_wp2_with fail
              refine wp_loop_rounds 5 ?_
              rw [rounds_succ]
              go_wp2_with fail
              rw [rounds_succ]
              go_wp2_with fail
              rw [rounds_succ]
              go_wp2_with fail
              rw [rounds_succ]
              go_wp2_with fail
              rw [rounds_succ]
              go_wp2_with fail
              go_roundw
              case rel => exact ⟨j - 1, by go_num, by omega, by omega, Lib.hid (by rw [← HN.out]; exact HJ.out), by go_grown⟩
              case measure => simp [intOf]; omega
            have HV := Lib.hid (HJ.out.trans (HYes.out (I1.out.1 rfl) (I2.out.1 rfl) (I3.out.1 rfl) (I4.out.1 rfl)))
            rw [← tdiv_ediv (I1.out.1 rfl), ← tdiv_ediv (I2.out.1 rfl), ← tdiv_ediv (I3.out.1 rfl), ← tdiv_ediv (I4.out.1 rfl)] at HV
            go_wp2_with fail
            go_wp2_with fail
            refine (HTr.out _).mono ?_; rintro e w6 ⟨rfl, hb6⟩
            obtain ⟨hc6, hf6⟩ := bcell hb6
            obtain ⟨hz6_0, hz6_1⟩ : w.heap.size < w6.heap.size ∧ w.heap.size + 1 < w6.heap.size := by have := hb6.size; (try simp at this); omega
            have hB6 : Below w.heap.size w w6 := bfin (by go_grown) hb6
            go_wp2_with fail
            refine (HTo.out _).mono ?_; rintro e w' ⟨rfl, rfl⟩
            go_wp2_with fail
            refine (HP.out _).mono ?_; rintro e w' ⟨rfl, rfl⟩
            have hD6 := hb.trans (hb6.mono hb.size)
            have hs6 := hD6.size
            go_wp2_with fail
            refine wp_loop_rounds 5 ?_
            rw [rounds_succ]
            go_wp2_with fail
            rw [rounds_succ]
            go_wp2_with fail
            rw [rounds_succ]
            go_wp2_with fail
            rw [rounds_succ]
            go_wp2_with fail
            rw [rounds_succ]
            go_wp2_with fail
            obtain ⟨⟨k0, k1, k2, k3⟩, ⟨-, -, -, -⟩, lk⟩ := Blk4.open_ (heap_below X1.out hD6)
            clear hBW
            go_wp2_with fail
            refine bodyPost_ret (v := .tuple #[(.agg #[.int .i64 ((A + V).tdiv U), .int .i64 (B.tdiv U), .int .i64 (C.tdiv U), .int .i64 ((D + V).tdiv U)]), (.int .i64 ((j : Int))), (.int .i64 0)]) (by first | (simp [results, Try.results32, go_sem]; done) | (simp [results, Try.results32, go_sem, k0, k1, k2, k3, lk] <;> rfl)) rfl ⟨by rw [HV.out], by go_grown⟩
          · have HN := Lib.hid (rootR_no (m := ⟨A, B, C, D⟩) (t := A + D) (show 2 ≤ j by omega) (no_hit fun s h3 h4 => hx ⟨s, h3, h4⟩))
            rw [torV_no (fun s h3 h4 => hx ⟨s, h3, h4⟩)] at HTo
            clear hx
            go_wp2_with fail
            go_wp2_with fail
            refine (HTr.out _).mono ?_; rintro e w6 ⟨rfl, hb6⟩
            obtain ⟨hc6, hf6⟩ := bcell hb6
            go_wp2_with fail
            refine (HTo.out _).mono ?_; rintro e w' ⟨rfl, rfl⟩
            go_wp2_with fail
            go_roundw
            case rel => exact ⟨j - 1, by go_num, by omega, by omega, Lib.hid (by rw [← HN.out]; exact HJ.out), hb.trans (hb6.mono hb.size)⟩
            case measure => simp [intOf]; omega
        · obtain rfl : j = 1 := by omega
          have HV := Lib.hid (show G = (⟨A, B, C, D⟩, 1) from HJ.out)
          clear hBW
          go_wp2_with fail
          refine bodyPost_ret (v := .tuple #[(.agg #[.int .i64 A, .int .i64 B, .int .i64 C, .int .i64 D]), (.int .i64 1), (.int .i64 0)]) (by first | (simp [results, Try.results32, go_sem]; done) | (simp [results, Try.results32, go_sem, g10, g11, g12, g13] <;> rfl)) rfl ⟨by rw [HV.out], by go_grown⟩
    · rw [show posM a b c d = ⟨a, b, c, d⟩ from if_neg hneg] at HB hM2 ⊢
      simp only at HB hM2 ⊢
      obtain ⟨A, rfl⟩ : ∃ A, A = a := ⟨_, rfl⟩
      obtain ⟨B, rfl⟩ : ∃ B, B = b := ⟨_, rfl⟩
      obtain ⟨C, rfl⟩ : ∃ C, C = c := ⟨_, rfl⟩
      obtain ⟨D, rfl⟩ : ∃ D, D = d := ⟨_, rfl⟩
      obtain ⟨⟨A0, A1⟩, ⟨B0, B1⟩, ⟨C0, C1⟩, ⟨D0, D1⟩, t3⟩ := HB
      obtain ⟨G, hG⟩ : ∃ G, G = rootR ⟨A, B, C, D⟩ (A + D) 30 := ⟨_, rfl⟩
      rw [← hG]
      have HG := Lib.hid hG
      clear hG
      go_enter Try.func32, Try.ntmps32
      go_wp2_with fail
      refine (H0.out _).mono ?_; rintro e w1 ⟨rfl, hb1⟩
      obtain ⟨hc1, hf1⟩ := bcell hb1
      obtain ⟨hz0, hz1⟩ : w.heap.size < w1.heap.size ∧ w.heap.size + 1 < w1.heap.size := by have := hb1.size; (try simp at this); omega
      go_wp2_with fail
      refine (HT.out _).mono ?_; rintro e w2 ⟨rfl, hb2⟩
      replace hb2 := bstep hb1 hb2
      clear hc1 hf1 hb1
      obtain ⟨hc2, hf2⟩ := bcell hb2
      obtain ⟨hz0, hz1⟩ : w.heap.size < w2.heap.size ∧ w.heap.size + 1 < w2.heap.size := by have := hb2.size; (try simp at this); omega
      go_wp2_with fail
      have X0 := Lib.hid (show Blk4 w2 w.heap.size 40 A B C D from heap_below (heap_alloc heap_new) hb2)
      have X1 := Lib.hid (show Blk4 w2 (w.heap.size + 1) 40 0 0 0 0 from heap_below (heap_new' (by simp)) hb2)
      have hBW : Below w.heap.size w w2 := bfin (by go_grown) hb2
      clear hb2 hc2 hf2
      obtain ⟨W0, rfl⟩ : ∃ W0, W0 = w2 := ⟨_, rfl⟩
      have hsW := hBW.size
      go_loopw [6] (fun u wr => ∃ j : Nat, u = (.int .i64 ((j : Int))) ∧ 1 ≤ j ∧ j ≤ 30 ∧ Hid (G = rootR ⟨A, B, C, D⟩ (A + D) j) ∧ Below W0.heap.size W0 wr) (fun u _ => (intOf u).toNat)
      case atStart => exact ⟨30, rfl, by omega, by omega, HG, Below.refl _ _⟩
      case round =>
        obtain ⟨j, rfl, j1, j30, HJ, hb⟩ := hrel
        have hbw : Below w.heap.size w wr := hBW.trans (hb.mono hsW)
        obtain ⟨⟨g00, g01, g02, g03⟩, ⟨-, -, -, -⟩, l0⟩ := Blk4.open_ (heap_below X0.out hb)
        obtain ⟨⟨g10, g11, g12, g13⟩, ⟨f10, f11, f12, f13⟩, l1⟩ := Blk4.open_ (heap_below X1.out hb)
        by_cases h1 : 1 < j
        · have HTr := Lib.hid (fun W => trace_any A B C D W hM2)
          have HTo := Lib.hid (fun W => traceOfRoot_any (A + D) j W (by omega) (by omega) t3 (by omega))
          by_cases hx : ∃ s, 3 ≤ s ∧ tr s j = A + D
          · obtain ⟨s, s3, hs⟩ := hx
            have hj : 2 ≤ j := by omega
            have s4 := root_small hj s3 (by omega) hs
            have HP := Lib.hid (fun W => powers_any s j W s3 (by omega) (by omega) (by omega))
            rw [pwV_ok (show tr s j ≤ 4000000000 by rw [hs]; omega), hs] at HP
            rw [torV_yes (by omega) s3 hs] at HTo
            obtain ⟨u0, u1, v0, v1⟩ := rootBd hj s3 (show A + D ≤ 2000000000 by omega) hs
            have HNo := Lib.hid (fun h => rootR_no (m := ⟨A, B, C, D⟩) (t := A + D) hj (no_hit_at (m := ⟨A, B, C, D⟩) (show 1 ≤ j by omega) s3 hs h))
            have HYes := Lib.hid (show (A + un s (j - 1)) % un s j = 0 → B % un s j = 0 → C % un s j = 0 → (D + un s (j - 1)) % un s j = 0 → rootR ⟨A, B, C, D⟩ (A + D) j = (⟨(A + un s (j - 1)) / un s j, B / un s j, C / un s j, (D + un s (j - 1)) / un s j⟩, (j : Int)) from fun e1 e2 e3 e4 => rootR_hit (m := ⟨A, B, C, D⟩) hj (Hit.mk s3 hs e1 e2 e3 e4))
            clear hs
            simp only at HNo
            generalize un s j = U at *
            generalize un s (j - 1) = V at *
            have hU : U ≠ 0 := by omega
            obtain ⟨qa0, qa1⟩ := qBd (x := A + V) (u := U) (by omega)
            obtain ⟨qb0, qb1⟩ := qBd (x := B) (u := U) (by omega)
            obtain ⟨qc0, qc1⟩ := qBd (x := C) (u := U) (by omega)
            obtain ⟨qd0, qd1⟩ := qBd (x := D + V) (u := U) (by omega)
            obtain ⟨o1, p1⟩ : ∃ v, ((A + V).tmod U == 0) = v := ⟨_, rfl⟩
            obtain ⟨o2, p2⟩ : ∃ v, (B.tmod U == 0) = v := ⟨_, rfl⟩
            obtain ⟨o3, p3⟩ : ∃ v, (C.tmod U == 0) = v := ⟨_, rfl⟩
            obtain ⟨o4, p4⟩ : ∃ v, ((D + V).tmod U == 0) = v := ⟨_, rfl⟩
            have I1 := Lib.hid (tmod_b p1)
            have I2 := Lib.hid (tmod_b p2)
            have I3 := Lib.hid (tmod_b p3)
            have I4 := Lib.hid (tmod_b p4)
            cases o1
            · have HN := Lib.hid (HNo.out (fun h => by have := I1.out.2 (h.1); exact absurd this (by simp)))
              go_wp2_with fail
              go_wp2_with fail
              refine (HTr.out _).mono ?_; rintro e w6 ⟨rfl, hb6⟩
              obtain ⟨hc6, hf6⟩ := bcell hb6
              obtain ⟨hz6_0, hz6_1⟩ : w.heap.size < w6.heap.size ∧ w.heap.size + 1 < w6.heap.size := by have := hb6.size; (try simp at this); omega
              have hB6 : Below w.heap.size w w6 := bfin (by go_grown) hb6
              go_wp2_with fail
              refine (HTo.out _).mono ?_; rintro e w' ⟨rfl, rfl⟩
              go_wp2_with fail
              refine (HP.out _).mono ?_; rintro e w' ⟨rfl, rfl⟩
              have hD6 := hb.trans (hb6.mono hb.size)
              have hs6 := hD6.size
              go_wp2_with fail
              refine wp_loop_rounds 5 ?_
              rw [rounds_succ]
              go_wp2_with fail
              rw [rounds_succ]
              go_wp2_with fail
              rw [rounds_succ]
              go_wp2_with fail
              rw [rounds_succ]
              go_wp2_with fail
              rw [rounds_succ]
              go_wp2_with fail
              go_roundw
              case rel => exact ⟨j - 1, by go_num, by omega, by omega, Lib.hid (by rw [← HN.out]; exact HJ.out), by go_grown⟩
              case measure => simp [intOf]; omega
            cases o2
            · have HN := Lib.hid (HNo.out (fun h => by have := I2.out.2 (h.2.1); exact absurd this (by simp)))
              go_wp2_with fail
              go_wp2_with fail
              refine (HTr.out _).mono ?_; rintro e w6 ⟨rfl, hb6⟩
              obtain ⟨hc6, hf6⟩ := bcell hb6
              obtain ⟨hz6_0, hz6_1⟩ : w.heap.size < w6.heap.size ∧ w.heap.size + 1 < w6.heap.size := by have := hb6.size; (try simp at this); omega
              have hB6 : Below w.heap.size w w6 := bfin (by go_grown) hb6
              go_wp2_with fail
              refine (HTo.out _).mono ?_; rintro e w' ⟨rfl, rfl⟩
              go_wp2_with fail
              refine (HP.out _).mono ?_; rintro e w' ⟨rfl, rfl⟩
              have hD6 := hb.trans (hb6.mono hb.size)
              have hs6 := hD6.size
              go_wp2_with fail
              refine wp_loop_rounds 5 ?_
              rw [rounds_succ]
              go_wp2_with fail
              rw [rounds_succ]
              go_wp2_with fail
              rw [rounds_succ]
              go_wp2_with fail
              rw [rounds_succ]
              go_wp2_with fail
              rw [rounds_succ]
              go_wp2_with fail
              go_roundw
              case rel => exact ⟨j - 1, by go_num, by omega, by omega, Lib.hid (by rw [← HN.out]; exact HJ.out), by go_grown⟩
              case measure => simp [intOf]; omega
            cases o3
            · have HN := Lib.hid (HNo.out (fun h => by have := I3.out.2 (h.2.2.1); exact absurd this (by simp)))
              go_wp2_with fail
              go_wp2_with fail
              refine (HTr.out _).mono ?_; rintro e w6 ⟨rfl, hb6⟩
              obtain ⟨hc6, hf6⟩ := bcell hb6
              obtain ⟨hz6_0, hz6_1⟩ : w.heap.size < w6.heap.size ∧ w.heap.size + 1 < w6.heap.size := by have := hb6.size; (try simp at this); omega
              have hB6 : Below w.heap.size w w6 := bfin (by go_grown) hb6
              go_wp2_with fail
              refine (HTo.out _).mono ?_; rintro e w' ⟨rfl, rfl⟩
              go_wp2_with fail
              refine (HP.out _).mono ?_; rintro e w' ⟨rfl, rfl⟩
              have hD6 := hb.trans (hb6.mono hb.size)
              have hs6 := hD6.size
              go_wp2_with fail
              refine wp_loop_rounds 5 ?_
              rw [rounds_succ]
              go_wp2_with fail
              rw [rounds_succ]
              go_wp2_with fail
              rw [rounds_succ]
              go_wp2_with fail
              rw [rounds_succ]
              go_wp2_with fail
              rw [rounds_succ]
              go_wp2_with fail
              go_roundw
              case rel => exact ⟨j - 1, by go_num, by omega, by omega, Lib.hid (by rw [← HN.out]; exact HJ.out), by go_grown⟩
              case measure => simp [intOf]; omega
            cases o4
            · have HN := Lib.hid (HNo.out (fun h => by have := I4.out.2 (h.2.2.2); exact absurd this (by simp)))
              go_wp2_with fail
              go_wp2_with fail
              refine (HTr.out _).mono ?_; rintro e w6 ⟨rfl, hb6⟩
              obtain ⟨hc6, hf6⟩ := bcell hb6
              obtain ⟨hz6_0, hz6_1⟩ : w.heap.size < w6.heap.size ∧ w.heap.size + 1 < w6.heap.size := by have := hb6.size; (try simp at this); omega
              have hB6 : Below w.heap.size w w6 := bfin (by go_grown) hb6
              go_wp2_with fail
              refine (HTo.out _).mono ?_; rintro e w' ⟨rfl, rfl⟩
              go_wp2_with fail
              refine (HP.out _).mono ?_; rintro e w' ⟨rfl, rfl⟩
              have hD6 := hb.trans (hb6.mono hb.size)
              have hs6 := hD6.size
              go_wp2_with fail
              refine wp_loop_rounds 5 ?_
              rw [rounds_succ]
              go_wp2_with fail
              rw [rounds_succ]
              go_wp2_with fail
              rw [rounds_succ]
              go_wp2_with fail
              rw [rounds_succ]
              go_wp2_with fail
              rw [rounds_succ]
              go_wp2_with fail
              go_roundw
              case rel => exact ⟨j - 1, by go_num, by omega, by omega, Lib.hid (by rw [← HN.out]; exact HJ.out), by go_grown⟩
              case measure => simp [intOf]; omega
            have HV := Lib.hid (HJ.out.trans (HYes.out (I1.out.1 rfl) (I2.out.1 rfl) (I3.out.1 rfl) (I4.out.1 rfl)))
            rw [← tdiv_ediv (I1.out.1 rfl), ← tdiv_ediv (I2.out.1 rfl), ← tdiv_ediv (I3.out.1 rfl), ← tdiv_ediv (I4.out.1 rfl)] at HV
            go_wp2_with fail
            go_wp2_with fail
            refine (HTr.out _).mono ?_; rintro e w6 ⟨rfl, hb6⟩
            obtain ⟨hc6, hf6⟩ := bcell hb6
            obtain ⟨hz6_0, hz6_1⟩ : w.heap.size < w6.heap.size ∧ w.heap.size + 1 < w6.heap.size := by have := hb6.size; (try simp at this); omega
            have hB6 : Below w.heap.size w w6 := bfin (by go_grown) hb6
            go_wp2_with fail
            refine (HTo.out _).mono ?_; rintro e w' ⟨rfl, rfl⟩
            go_wp2_with fail
            refine (HP.out _).mono ?_; rintro e w' ⟨rfl, rfl⟩
            have hD6 := hb.trans (hb6.mono hb.size)
            have hs6 := hD6.size
            go_wp2_with fail
            refine wp_loop_rounds 5 ?_
            rw [rounds_succ]
            go_wp2_with fail
            rw [rounds_succ]
            go_wp2_with fail
            rw [rounds_succ]
            go_wp2_with fail
            rw [rounds_succ]
            go_wp2_with fail
            rw [rounds_succ]
            go_wp2_with fail
            obtain ⟨⟨k0, k1, k2, k3⟩, ⟨-, -, -, -⟩, lk⟩ := Blk4.open_ (heap_below X1.out hD6)
            clear hBW
            go_wp2_with fail
            refine bodyPost_ret (v := .tuple #[(.agg #[.int .i64 ((A + V).tdiv U), .int .i64 (B.tdiv U), .int .i64 (C.tdiv U), .int .i64 ((D + V).tdiv U)]), (.int .i64 ((j : Int))), (.int .i64 0)]) (by first | (simp [results, Try.results32, go_sem]; done) | (simp [results, Try.results32, go_sem, k0, k1, k2, k3, lk] <;> rfl)) rfl ⟨by rw [HV.out], by go_grown⟩
          · have HN := Lib.hid (rootR_no (m := ⟨A, B, C, D⟩) (t := A + D) (show 2 ≤ j by omega) (no_hit fun s h3 h4 => hx ⟨s, h3, h4⟩))
            rw [torV_no (fun s h3 h4 => hx ⟨s, h3, h4⟩)] at HTo
            clear hx
            go_wp2_with fail
            go_wp2_with fail
            refine (HTr.out _).mono ?_; rintro e w6 ⟨rfl, hb6⟩
            obtain ⟨hc6, hf6⟩ := bcell hb6
            go_wp2_with fail
            refine (HTo.out _).mono ?_; rintro e w' ⟨rfl, rfl⟩
            go_wp2_with fail
            go_roundw
            case rel => exact ⟨j - 1, by go_num, by omega, by omega, Lib.hid (by rw [← HN.out]; exact HJ.out), hb.trans (hb6.mono hb.size)⟩
            case measure => simp [intOf]; omega
        · obtain rfl : j = 1 := by omega
          have HV := Lib.hid (show G = (⟨A, B, C, D⟩, 1) from HJ.out)
          clear hBW
          go_wp2_with fail
          refine bodyPost_ret (v := .tuple #[(.agg #[.int .i64 A, .int .i64 B, .int .i64 C, .int .i64 D]), (.int .i64 1), (.int .i64 0)]) (by first | (simp [results, Try.results32, go_sem]; done) | (simp [results, Try.results32, go_sem, g10, g11, g12, g13] <;> rfl)) rfl ⟨by rw [HV.out], by go_grown⟩
  · rw [show rtR a b c d = ((⟨0, 0, 0, 0⟩, 0), kcode a b c d 3) from if_neg hk]
    have hne : (kcode a b c d 3 != 0) = true := by simpa using hk
    clear hk
    generalize kcode a b c d 3 = K at *
    go_enter Try.func32, Try.ntmps32
    go_wp2_with fail
    refine (H0.out _).mono ?_; rintro e w1 ⟨rfl, hb1⟩
    obtain ⟨hc1, hf1⟩ := bcell hb1
    obtain ⟨hz0, hz1⟩ : w.heap.size < w1.heap.size ∧ w.heap.size + 1 < w1.heap.size := by have := hb1.size; (try simp at this); omega
    have hB1 : Below w.heap.size w w1 := bfin (by go_grown) hb1
    go_wp2_with fail
    have hall := And.intro hc1 (And.intro hz0 (hz1))
    refine bodyPost_ret (v := .tuple #[(.agg #[.int .i64 0, .int .i64 0, .int .i64 0, .int .i64 0]), (.int .i64 0), (.int .i64 K)]) (by first | (simp [results, Try.results32, go_sem]; done) | (simp [results, Try.results32, go_sem, hall] <;> rfl)) rfl ⟨rfl, by go_grown⟩
end Go.Proofs.Ytencfmipplgnkaa
