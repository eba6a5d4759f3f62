/- Contracts: RootOf, the model's own; the law (written by gen_c82.py). -/
import Derived.Test.YtencfmipplgnkaaC81
namespace Go.Proofs.Ytencfmipplgnkaa
open Go.RowKit
theorem root_small_le {s t : Int} {k : Nat} (hk : 2 ≤ k) (hs : 3 ≤ s) (ht : t ≤ 2000000000) (h : tr s k ≤ t) : s ≤ 44722 := root_small hk hs (Int.le_trans h ht) rfl
theorem hit_of {m : Q4} {t s : Int} {k : Nat} (hs : 3 ≤ s) (h : tr s k = t) (h1 : (m.a + un s (k - 1)) % un s k = 0) (h2 : m.b % un s k = 0) (h3 : m.c % un s k = 0) (h4 : (m.d + un s (k - 1)) % un s k = 0) : Hit m t k s := ⟨hs, h, h1, h2, h3, h4⟩
set_option maxRecDepth 100000 in
set_option maxHeartbeats 4000000 in
theorem l04Root_any (a b c d : Int) (w : World) (hM : IsMat a b c d) (h3 : kindOf a b c d = 3) :
    Calls Try.prog 67 #[(.agg #[.int .i64 a, .int .i64 b, .int .i64 c, .int .i64 d])] w fun e w' => e = .returned (.tuple #[(.agg #[.int .i64 ((rootR (posM a b c d) ((posM a b c d).a + (posM a b c d).d) 40).1.a), .int .i64 ((rootR (posM a b c d) ((posM a b c d).a + (posM a b c d).d) 40).1.b), .int .i64 ((rootR (posM a b c d) ((posM a b c d).a + (posM a b c d).d) 40).1.c), .int .i64 ((rootR (posM a b c d) ((posM a b c d).a + (posM a b c d).d) 40).1.d)]), (.int .i64 ((rootR (posM a b c d) ((posM a b c d).a + (posM a b c d).d) 40).2))]) ∧ Below w.heap.size w w' := by
  have HT := Lib.hid (fun W => l01Trace_any a b c d W hM)
  have hM' := hM
  obtain ⟨i1, i2, i3, i4, i5, i6, i7, i8, -⟩ := hM'
  have HB := posM_bd hM h3
  have hM2 := posM_mat hM
  by_cases hneg : a + d < 0
  · rw [show posM a b c d = ⟨-a, -b, -c, -d⟩ from if_pos hneg] at HB hM2 ⊢
    simp only at HB hM2 ⊢
    have HNg := Lib.hid (fun W => l01Negative_any a b c d W (by omega) (by omega) (by omega) (by omega) (by omega) (by omega) (by omega) (by omega))
    obtain ⟨A, hA⟩ : ∃ A, A = -a := ⟨_, rfl⟩
    obtain ⟨B, hB⟩ : ∃ B, B = -b := ⟨_, rfl⟩
    obtain ⟨C, hC⟩ : ∃ C, C = -c := ⟨_, rfl⟩
    obtain ⟨D, hD⟩ : ∃ D, D = -d := ⟨_, rfl⟩
    rw [← hA, ← hB, ← hC, ← hD] at HB hM2 HNg ⊢
    clear hA hB hC hD
    have HT2 := Lib.hid (fun W => l01Trace_any A B C D W hM2)
    obtain ⟨⟨A0, A1⟩, ⟨B0, B1⟩, ⟨C0, C1⟩, ⟨D0, D1⟩, t3⟩ := HB
    obtain ⟨G, hG⟩ : ∃ G, G = rootR ⟨A, B, C, D⟩ (A + D) 40 := ⟨_, rfl⟩
    rw [← hG]
    have HG := Lib.hid hG
    clear hG hM hM2 h3
    go_enter Try.func67, Try.ntmps67
    go_wp2_with fail
    refine (HT.out _).mono ?_; rintro e w1 ⟨rfl, hb1⟩
    obtain ⟨hc1, hf1⟩ := bcell hb1
    obtain ⟨hz0, hz1⟩ : w.heap.size < w1.heap.size ∧ w.heap.size + 1 < w1.heap.size := by have := hb1.size; (try simp at this); omega
    go_wp2_with fail
    refine (HNg.out _).mono ?_; rintro e w2 ⟨rfl, hb2⟩
    replace hb2 := bstep hb1 hb2
    clear hc1 hf1 hb1
    obtain ⟨hc2, hf2⟩ := bcell hb2
    obtain ⟨hz0, hz1⟩ : w.heap.size < w2.heap.size ∧ w.heap.size + 1 < w2.heap.size := by have := hb2.size; (try simp at this); omega
    have X0 := Lib.hid (show Blk4 ((((w2.setCell ⟨w.heap.size, 0, none⟩ (.int .i64 A)).setCell ⟨w.heap.size, 1, none⟩ (.int .i64 B)).setCell ⟨w.heap.size, 2, none⟩ (.int .i64 C)).setCell ⟨w.heap.size, 3, none⟩ (.int .i64 D)) w.heap.size 40 A B C D from heap_set4 (by exact heap_below (heap_alloc heap_new) hb2))
    have X1 := Lib.hid (show Blk4 ((((w2.setCell ⟨w.heap.size, 0, none⟩ (.int .i64 A)).setCell ⟨w.heap.size, 1, none⟩ (.int .i64 B)).setCell ⟨w.heap.size, 2, none⟩ (.int .i64 C)).setCell ⟨w.heap.size, 3, none⟩ (.int .i64 D)) (w.heap.size + 1) 40 0 0 0 0 from heap_keep (heap_keep (heap_keep (heap_keep (by exact heap_below (heap_new' (by simp)) hb2) (by omega)) (by omega)) (by omega)) (by omega))
    have hBW : Below w.heap.size w ((((w2.setCell ⟨w.heap.size, 0, none⟩ (.int .i64 A)).setCell ⟨w.heap.size, 1, none⟩ (.int .i64 B)).setCell ⟨w.heap.size, 2, none⟩ (.int .i64 C)).setCell ⟨w.heap.size, 3, none⟩ (.int .i64 D)) := by have hB2 : Below w.heap.size w w2 := bfin (by go_grown) hb2; go_grown
    obtain ⟨⟨g00, g01, g02, g03⟩, ⟨-, -, -, -⟩, l0⟩ := Blk4.open_ X0.out
    go_wp2_with fail
    clear hb2 hc2 hf2
    generalize ((((w2.setCell ⟨w.heap.size, 0, none⟩ (.int .i64 A)).setCell ⟨w.heap.size, 1, none⟩ (.int .i64 B)).setCell ⟨w.heap.size, 2, none⟩ (.int .i64 C)).setCell ⟨w.heap.size, 3, none⟩ (.int .i64 D)) = W0 at *
    have hsW := hBW.size
    refine (HT2.out _).mono ?_; rintro e w5 ⟨rfl, hb5⟩
    have X0' := Lib.hid (heap_below X0.out hb5)
    have X1' := Lib.hid (heap_below X1.out hb5)
    have hB5 : Below w.heap.size w w5 := hBW.trans (hb5.mono hsW)
    clear g00 g01 g02 g03 X0 X1 hBW hb5
    go_wp2_with fail
    have hs5 := hB5.size
    obtain ⟨⟨g00, g01, g02, g03⟩, ⟨-, -, -, -⟩, l0'⟩ := Blk4.open_ X0'.out
    obtain ⟨⟨g10, g11, g12, g13⟩, ⟨f10, f11, f12, f13⟩, l1⟩ := Blk4.open_ X1'.out
    go_loop [5] (fun u => ∃ j : Nat, u = (.int .i64 ((j : Int))) ∧ 1 ≤ j ∧ j ≤ 40 ∧ Hid (G = rootR ⟨A, B, C, D⟩ (A + D) j)) (fun u => (intOf u).toNat)
    case atStart => exact ⟨40, rfl, by omega, by omega, HG⟩
    case round =>
      obtain ⟨j, rfl, j1, j40, HJ⟩ := hrel
      by_cases h1 : 1 < j
      · go_wp2_with fail
        go_loop [6] (fun u => ∃ s : Int, u = (.int .i64 s) ∧ 3 ≤ s ∧ s ≤ 44723 ∧ Hid (SAt ⟨A, B, C, D⟩ (A + D) j s)) (fun u => (50000 - intOf u).toNat)
        case atStart => exact ⟨3, rfl, by omega, by omega, Lib.hid (SAt.start _ _ _)⟩
        case round =>
          obtain ⟨s, rfl, s3, s4, HS⟩ := hrel
          have HP := Lib.hid (fun W => l04Powers_any s (A + D) j W s3 (by omega) (by omega) (by omega) t3 (by omega))
          have hp := tr_pos s3 j
          by_cases hle : tr s j ≤ A + D
          · have s5 := root_small_le (show 2 ≤ j by omega) s3 (by omega) hle
            rw [pwT_ok (.inr hle)] at HP
            have HBd := Lib.hid (fun h => rootBd (show 2 ≤ j by omega) s3 (show A + D ≤ 2000000000 by omega) (h : tr s j = A + D))
            have HNo := Lib.hid (fun hn => HS.out.next s3 hn)
            have HHit := Lib.hid (fun h => @hit_of ⟨A, B, C, D⟩ (A + D) s j s3 h)
            have HYes := Lib.hid (fun h => rootR_hit (m := ⟨A, B, C, D⟩) (t := A + D) (s := s) (show 2 ≤ j by omega) h)
            have HNt := Lib.hid (fun (h : ¬ tr s j = A + D) (hh : Hit ⟨A, B, C, D⟩ (A + D) j s) => h hh.tr)
            have HAt := Lib.hid (fun hh : Hit ⟨A, B, C, D⟩ (A + D) j s => And.intro hh.a (And.intro hh.b (And.intro hh.c hh.d)))
            simp only [rootQ] at HYes HHit HAt
            by_cases heq : tr s j = A + D
            · obtain ⟨u0, u1, v0, v1⟩ := HBd.out heq
              have HEq := Lib.hid heq
              have HHit2 := Lib.hid (HHit.out heq)
              clear heq HBd HNt HHit
              rw [HEq.out] at HP
              have hnt : (A + D != A + D) = false := by simp
              clear hp hle
              generalize un s j = U at *
              generalize un s (j - 1) = V at *
              have hU : U ≠ 0 := by omega
              obtain ⟨qa0, qa1⟩ := qBd (x := A + V) (u := U) (by omega)
              obtain ⟨qb0, qb1⟩ := qBd (x := B) (u := U) (by omega)
              obtain ⟨qc0, qc1⟩ := qBd (x := C) (u := U) (by omega)
              obtain ⟨qd0, qd1⟩ := qBd (x := D + V) (u := U) (by omega)
              obtain ⟨o1, p1⟩ : ∃ v, ((A + V).tmod U == 0) = v := ⟨_, rfl⟩
              obtain ⟨o2, p2⟩ : ∃ v, (B.tmod U == 0) = v := ⟨_, rfl⟩
              obtain ⟨o3, p3⟩ : ∃ v, (C.tmod U == 0) = v := ⟨_, rfl⟩
              obtain ⟨o4, p4⟩ : ∃ v, ((D + V).tmod U == 0) = v := ⟨_, rfl⟩
              have I1 := Lib.hid (tmod_b p1)
              have I2 := Lib.hid (tmod_b p2)
              have I3 := Lib.hid (tmod_b p3)
              have I4 := Lib.hid (tmod_b p4)
              cases o1
              · have HN := Lib.hid (HNo.out (fun h => by have := I1.out.2 (HAt.out h).1; exact absurd this (by simp)))
                clear HAt HYes HHit2
                go_wp2_with fail
                refine (HP.out _).mono ?_; rintro e w' ⟨rfl, rfl⟩
                go_wp2_with fail
                go_round
                case rel => exact ⟨s + 1, rfl, by omega, by omega, HN⟩
                case measure => simp [intOf]; omega
              cases o2
              · have HN := Lib.hid (HNo.out (fun h => by have := I2.out.2 (HAt.out h).2.1; exact absurd this (by simp)))
                clear HAt HYes HHit2
                go_wp2_with fail
                refine (HP.out _).mono ?_; rintro e w' ⟨rfl, rfl⟩
                go_wp2_with fail
                go_round
                case rel => exact ⟨s + 1, rfl, by omega, by omega, HN⟩
                case measure => simp [intOf]; omega
              cases o3
              · have HN := Lib.hid (HNo.out (fun h => by have := I3.out.2 (HAt.out h).2.2.1; exact absurd this (by simp)))
                clear HAt HYes HHit2
                go_wp2_with fail
                refine (HP.out _).mono ?_; rintro e w' ⟨rfl, rfl⟩
                go_wp2_with fail
                go_round
                case rel => exact ⟨s + 1, rfl, by omega, by omega, HN⟩
                case measure => simp [intOf]; omega
              cases o4
              · have HN := Lib.hid (HNo.out (fun h => by have := I4.out.2 (HAt.out h).2.2.2; exact absurd this (by simp)))
                clear HAt HYes HHit2
                go_wp2_with fail
                refine (HP.out _).mono ?_; rintro e w' ⟨rfl, rfl⟩
                go_wp2_with fail
                go_round
                case rel => exact ⟨s + 1, rfl, by omega, by omega, HN⟩
                case measure => simp [intOf]; omega
              have HV := Lib.hid (HJ.out.trans (HYes.out (HHit2.out (I1.out.1 rfl) (I2.out.1 rfl) (I3.out.1 rfl) (I4.out.1 rfl))))
              rw [← tdiv_ediv (I1.out.1 rfl), ← tdiv_ediv (I2.out.1 rfl), ← tdiv_ediv (I3.out.1 rfl), ← tdiv_ediv (I4.out.1 rfl)] at HV
              clear HAt HYes HHit2 HNo I1 I2 I3 I4
              have wr0 : IntKind.i64.wrap (A + V) = A + V := IntWalk.i64_in _ (by omega)
              have wr1 : IntKind.i64.wrap (D + V) = D + V := IntWalk.i64_in _ (by omega)
              have wq0 : IntKind.i64.wrap ((A + V).tdiv U) = (A + V).tdiv U := IntWalk.i64_in _ (by omega)
              have wq1 : IntKind.i64.wrap (B.tdiv U) = B.tdiv U := IntWalk.i64_in _ (by omega)
              have wq2 : IntKind.i64.wrap (C.tdiv U) = C.tdiv U := IntWalk.i64_in _ (by omega)
              have wq3 : IntKind.i64.wrap ((D + V).tdiv U) = (D + V).tdiv U := IntWalk.i64_in _ (by omega)
              go_wp2_with fail
              refine (HP.out _).mono ?_; rintro e w' ⟨rfl, rfl⟩
              go_wp2_with fail
              go_big_region
              go_wp2_with fail
              refine bodyPost_ret (v := .tuple #[(.agg #[.int .i64 ((A + V).tdiv U), .int .i64 (B.tdiv U), .int .i64 (C.tdiv U), .int .i64 ((D + V).tdiv U)]), (.int .i64 ((j : Int)))]) (by first | (simp [results, Try.results67, go_sem]; done) | (simp [results, Try.results67, go_sem, g10, g11, g12, g13] <;> rfl)) rfl ⟨by rw [HV.out], by go_grown⟩
            · have HN := Lib.hid (HNo.out (HNt.out heq))
              have hnt : (tr s j != A + D) = true := by simpa using heq
              clear heq HAt HYes HBd HHit HNt HNo
              generalize tr s j = T at *
              generalize un s j = U at *
              generalize un s (j - 1) = V at *
              have ht0 : (T == 0) = false := by simp; omega
              go_wp2_with fail
              refine (HP.out _).mono ?_; rintro e w' ⟨rfl, rfl⟩
              go_wp2_with fail
              go_round
              case rel => exact ⟨s + 1, rfl, by omega, by omega, HN⟩
              case measure => simp [intOf]; omega
          · rw [pwT_no (show 2 ≤ j by omega) hle] at HP
            have HN := Lib.hid (rootR_no (m := ⟨A, B, C, D⟩) (t := A + D) (show 2 ≤ j by omega) (HS.out.stop (show 1 ≤ j by omega) s3 (by omega)))
            clear hle hp
            go_wp2_with fail
            refine (HP.out _).mono ?_; rintro e w' ⟨rfl, rfl⟩
            go_wp2_with fail
            go_round
            case rel => exact ⟨j - 1, by go_num, by omega, by omega, Lib.hid (by rw [← HN.out]; exact HJ.out)⟩
            case measure => simp [intOf]; omega
      · obtain rfl : j = 1 := by omega
        have HV := Lib.hid (show G = (⟨A, B, C, D⟩, 1) from HJ.out)
        go_wp2_with fail
        refine bodyPost_ret (v := .tuple #[(.agg #[.int .i64 A, .int .i64 B, .int .i64 C, .int .i64 D]), (.int .i64 1)]) (by first | (simp [results, Try.results67, go_sem]; done) | (simp [results, Try.results67, go_sem, g10, g11, g12, g13] <;> rfl)) rfl ⟨by rw [HV.out], by go_grown⟩
  · rw [show posM a b c d = ⟨a, b, c, d⟩ from if_neg hneg] at HB hM2 ⊢
    simp only at HB hM2 ⊢
    obtain ⟨A, rfl⟩ : ∃ A, A = a := ⟨_, rfl⟩
    obtain ⟨B, rfl⟩ : ∃ B, B = b := ⟨_, rfl⟩
    obtain ⟨C, rfl⟩ : ∃ C, C = c := ⟨_, rfl⟩
    obtain ⟨D, rfl⟩ : ∃ D, D = d := ⟨_, rfl⟩
    have HT2 := Lib.hid (fun W => l01Trace_any A B C D W hM2)
    obtain ⟨⟨A0, A1⟩, ⟨B0, B1⟩, ⟨C0, C1⟩, ⟨D0, D1⟩, t3⟩ := HB
    obtain ⟨G, hG⟩ : ∃ G, G = rootR ⟨A, B, C, D⟩ (A + D) 40 := ⟨_, rfl⟩
    rw [← hG]
    have HG := Lib.hid hG
    clear hG hM hM2 h3
    go_enter Try.func67, Try.ntmps67
    go_wp2_with fail
    refine (HT.out _).mono ?_; rintro e w1 ⟨rfl, hb1⟩
    obtain ⟨hc1, hf1⟩ := bcell hb1
    obtain ⟨hz0, hz1⟩ : w.heap.size < w1.heap.size ∧ w.heap.size + 1 < w1.heap.size := by have := hb1.size; (try simp at this); omega
    go_wp2_with fail
    have X0 := Lib.hid (show Blk4 w1 w.heap.size 40 A B C D from heap_below (heap_alloc heap_new) hb1)
    have X1 := Lib.hid (show Blk4 w1 (w.heap.size + 1) 40 0 0 0 0 from heap_below (heap_new' (by simp)) hb1)
    have hBW : Below w.heap.size w w1 := bfin (by go_grown) hb1
    clear hb1 hc1 hf1
    obtain ⟨W0, rfl⟩ : ∃ W0, W0 = w1 := ⟨_, rfl⟩
    have hsW := hBW.size
    obtain ⟨⟨g00, g01, g02, g03⟩, ⟨-, -, -, -⟩, l0⟩ := Blk4.open_ X0.out
    refine (HT2.out _).mono ?_; rintro e w5 ⟨rfl, hb5⟩
    have X0' := Lib.hid (heap_below X0.out hb5)
    have X1' := Lib.hid (heap_below X1.out hb5)
    have hB5 : Below w.heap.size w w5 := hBW.trans (hb5.mono hsW)
    clear g00 g01 g02 g03 X0 X1 hBW hb5
    go_wp2_with fail
    have hs5 := hB5.size
    obtain ⟨⟨g00, g01, g02, g03⟩, ⟨-, -, -, -⟩, l0'⟩ := Blk4.open_ X0'.out
    obtain ⟨⟨g10, g11, g12, g13⟩, ⟨f10, f11, f12, f13⟩, l1⟩ := Blk4.open_ X1'.out
    go_loop [5] (fun u => ∃ j : Nat, u = (.int .i64 ((j : Int))) ∧ 1 ≤ j ∧ j ≤ 40 ∧ Hid (G = rootR ⟨A, B, C, D⟩ (A + D) j)) (fun u => (intOf u).toNat)
    case atStart => exact ⟨40, rfl, by omega, by omega, HG⟩
    case round =>
      obtain ⟨j, rfl, j1, j40, HJ⟩ := hrel
      by_cases h1 : 1 < j
      · go_wp2_with fail
        go_loop [6] (fun u => ∃ s : Int, u = (.int .i64 s) ∧ 3 ≤ s ∧ s ≤ 44723 ∧ Hid (SAt ⟨A, B, C, D⟩ (A + D) j s)) (fun u => (50000 - intOf u).toNat)
        case atStart => exact ⟨3, rfl, by omega, by omega, Lib.hid (SAt.start _ _ _)⟩
        case round =>
          obtain ⟨s, rfl, s3, s4, HS⟩ := hrel
          have HP := Lib.hid (fun W => l04Powers_any s (A + D) j W s3 (by omega) (by omega) (by omega) t3 (by omega))
          have hp := tr_pos s3 j
          by_cases hle : tr s j ≤ A + D
          · have s5 := root_small_le (show 2 ≤ j by omega) s3 (by omega) hle
            rw [pwT_ok (.inr hle)] at HP
            have HBd := Lib.hid (fun h => rootBd (show 2 ≤ j by omega) s3 (show A + D ≤ 2000000000 by omega) (h : tr s j = A + D))
            have HNo := Lib.hid (fun hn => HS.out.next s3 hn)
            have HHit := Lib.hid (fun h => @hit_of ⟨A, B, C, D⟩ (A + D) s j s3 h)
            have HYes := Lib.hid (fun h => rootR_hit (m := ⟨A, B, C, D⟩) (t := A + D) (s := s) (show 2 ≤ j by omega) h)
            have HNt := Lib.hid (fun (h : ¬ tr s j = A + D) (hh : Hit ⟨A, B, C, D⟩ (A + D) j s) => h hh.tr)
            have HAt := Lib.hid (fun hh : Hit ⟨A, B, C, D⟩ (A + D) j s => And.intro hh.a (And.intro hh.b (And.intro hh.c hh.d)))
            simp only [rootQ] at HYes HHit HAt
            by_cases heq : tr s j = A + D
            · obtain ⟨u0, u1, v0, v1⟩ := HBd.out heq
              have HEq := Lib.hid heq
              have HHit2 := Lib.hid (HHit.out heq)
              clear heq HBd HNt HHit
              rw [HEq.out] at HP
              have hnt : (A + D != A + D) = false := by simp
              clear hp hle
              generalize un s j = U at *
              generalize un s (j - 1) = V at *
              have hU : U ≠ 0 := by omega
              obtain ⟨qa0, qa1⟩ := qBd (x := A + V) (u := U) (by omega)
              obtain ⟨qb0, qb1⟩ := qBd (x := B) (u := U) (by omega)
              obtain ⟨qc0, qc1⟩ := qBd (x := C) (u := U) (by omega)
              obtain ⟨qd0, qd1⟩ := qBd (x := D + V) (u := U) (by omega)
              obtain ⟨o1, p1⟩ : ∃ v, ((A + V).tmod U == 0) = v := ⟨_, rfl⟩
              obtain ⟨o2, p2⟩ : ∃ v, (B.tmod U == 0) = v := ⟨_, rfl⟩
              obtain ⟨o3, p3⟩ : ∃ v, (C.tmod U == 0) = v := ⟨_, rfl⟩
              obtain ⟨o4, p4⟩ : ∃ v, ((D + V).tmod U == 0) = v := ⟨_, rfl⟩
              have I1 := Lib.hid (tmod_b p1)
              have I2 := Lib.hid (tmod_b p2)
              have I3 := Lib.hid (tmod_b p3)
              have I4 := Lib.hid (tmod_b p4)
              cases o1
              · have HN := Lib.hid (HNo.out (fun h => by have := I1.out.2 (HAt.out h).1; exact absurd this (by simp)))
                clear HAt HYes HHit2
                go_wp2_with fail
                refine (HP.out _).mono ?_; rintro e w' ⟨rfl, rfl⟩
                go_wp2_with fail
                go_round
                case rel => exact ⟨s + 1, rfl, by omega, by omega, HN⟩
                case measure => simp [intOf]; omega
              cases o2
              · have HN := Lib.hid (HNo.out (fun h => by have := I2.out.2 (HAt.out h).2.1; exact absurd this (by simp)))
                clear HAt HYes HHit2
                go_wp2_with fail
                refine (HP.out _).mono ?_; rintro e w' ⟨rfl, rfl⟩
                go_wp2_with fail
                go_round
                case rel => exact ⟨s + 1, rfl, by omega, by omega, HN⟩
                case measure => simp [intOf]; omega
              cases o3
              · have HN := Lib.hid (HNo.out (fun h => by have := I3.out.2 (HAt.out h).2.2.1; exact absurd this (by simp)))
                clear HAt HYes HHit2
                go_wp2_with fail
                refine (HP.out _).mono ?_; rintro e w' ⟨rfl, rfl⟩
                go_wp2_with fail
                go_round
                case rel => exact ⟨s + 1, rfl, by omega, by omega, HN⟩
                case measure => simp [intOf]; omega
              cases o4
              · have HN := Lib.hid (HNo.out (fun h => by have := I4.out.2 (HAt.out h).2.2.2; exact absurd this (by simp)))
                clear HAt HYes HHit2
                go_wp2_with fail
                refine (HP.out _).mono ?_; rintro e w' ⟨rfl, rfl⟩
                go_wp2_with fail
                go_round
                case rel => exact ⟨s + 1, rfl, by omega, by omega, HN⟩
                case measure => simp [intOf]; omega
              have HV := Lib.hid (HJ.out.trans (HYes.out (HHit2.out (I1.out.1 rfl) (I2.out.1 rfl) (I3.out.1 rfl) (I4.out.1 rfl))))
              rw [← tdiv_ediv (I1.out.1 rfl), ← tdiv_ediv (I2.out.1 rfl), ← tdiv_ediv (I3.out.1 rfl), ← tdiv_ediv (I4.out.1 rfl)] at HV
              clear HAt HYes HHit2 HNo I1 I2 I3 I4
              have wr0 : IntKind.i64.wrap (A + V) = A + V := IntWalk.i64_in _ (by omega)
              have wr1 : IntKind.i64.wrap (D + V) = D + V := IntWalk.i64_in _ (by omega)
              have wq0 : IntKind.i64.wrap ((A + V).tdiv U) = (A + V).tdiv U := IntWalk.i64_in _ (by omega)
              have wq1 : IntKind.i64.wrap (B.tdiv U) = B.tdiv U := IntWalk.i64_in _ (by omega)
              have wq2 : IntKind.i64.wrap (C.tdiv U) = C.tdiv U := IntWalk.i64_in _ (by omega)
              have wq3 : IntKind.i64.wrap ((D + V).tdiv U) = (D + V).tdiv U := IntWalk.i64_in _ (by omega)
              go_wp2_with fail
              refine (HP.out _).mono ?_; rintro e w' ⟨rfl, rfl⟩
              go_wp2_with fail
              go_big_region
              go_wp2_with fail
              refine bodyPost_ret (v := .tuple #[(.agg #[.int .i64 ((A + V).tdiv U), .int .i64 (B.tdiv U), .int .i64 (C.tdiv U), .int .i64 ((D + V).tdiv U)]), (.int .i64 ((j : Int)))]) (by first | (simp [results, Try.results67, go_sem]; done) | (simp [results, Try.results67, go_sem, g10, g11, g12, g13] <;> rfl)) rfl ⟨by rw [HV.out], by go_grown⟩
            · have HN := Lib.hid (HNo.out (HNt.out heq))
              have hnt : (tr s j != A + D) = true := by simpa using heq
              clear heq HAt HYes HBd HHit HNt HNo
              generalize tr s j = T at *
              generalize un s j = U at *
              generalize un s (j - 1) = V at *
              have ht0 : (T == 0) = false := by simp; omega
              go_wp2_with fail
              refine (HP.out _).mono ?_; rintro e w' ⟨rfl, rfl⟩
              go_wp2_with fail
              go_round
              case rel => exact ⟨s + 1, rfl, by omega, by omega, HN⟩
              case measure => simp [intOf]; omega
          · rw [pwT_no (show 2 ≤ j by omega) hle] at HP
            have HN := Lib.hid (rootR_no (m := ⟨A, B, C, D⟩) (t := A + D) (show 2 ≤ j by omega) (HS.out.stop (show 1 ≤ j by omega) s3 (by omega)))
            clear hle hp
            go_wp2_with fail
            refine (HP.out _).mono ?_; rintro e w' ⟨rfl, rfl⟩
            go_wp2_with fail
            go_round
            case rel => exact ⟨j - 1, by go_num, by omega, by omega, Lib.hid (by rw [← HN.out]; exact HJ.out)⟩
            case measure => simp [intOf]; omega
      · obtain rfl : j = 1 := by omega
        have HV := Lib.hid (show G = (⟨A, B, C, D⟩, 1) from HJ.out)
        go_wp2_with fail
        refine bodyPost_ret (v := .tuple #[(.agg #[.int .i64 A, .int .i64 B, .int .i64 C, .int .i64 D]), (.int .i64 1)]) (by first | (simp [results, Try.results67, go_sem]; done) | (simp [results, Try.results67, go_sem, g10, g11, g12, g13] <;> rfl)) rfl ⟨by rw [HV.out], by go_grown⟩
set_option maxRecDepth 100000 in
set_option maxHeartbeats 1000000 in
theorem sRootOf_any (a b c d : Int) (w : World) :
    Calls Try.prog 31 #[(.agg #[.int .i64 a, .int .i64 b, .int .i64 c, .int .i64 d])] w fun e w' => e = .returned (.tuple #[(.agg #[.int .i64 ((rtR a b c d).1.1.a), .int .i64 ((rtR a b c d).1.1.b), .int .i64 ((rtR a b c d).1.1.c), .int .i64 ((rtR a b c d).1.1.d)]), (.int .i64 ((rtR a b c d).1.2)), (.int .i64 ((rtR a b c d).2))]) ∧ Below w.heap.size w w' := by
  have H0 := Lib.hid (fun W => l04Kind_any a b c d 3 W)
  by_cases hk : kcode a b c d 3 = 0
  · obtain ⟨hM, h3⟩ := kcode_zero hk
    have HR := Lib.hid (fun W => l04Root_any a b c d W hM h3)
    rw [show rtR a b c d = (rootR (posM a b c d) ((posM a b c d).a + (posM a b c d).d) 40, 0) from if_pos hk]
    rw [hk] at H0
    clear hk hM h3
    generalize rootR (posM a b c d) ((posM a b c d).a + (posM a b c d).d) 40 = G at *
    obtain ⟨⟨x, y, z, u⟩, v⟩ := G
    simp only at HR ⊢
    go_enter Try.func31, Try.ntmps31
    go_wp2_with fail
    refine (H0.out _).mono ?_; rintro e w1 ⟨rfl, hb1⟩
    obtain ⟨hc1, hf1⟩ := bcell hb1
    obtain ⟨hz0, hz1⟩ : w.heap.size < w1.heap.size ∧ w.heap.size + 1 < w1.heap.size := by have := hb1.size; (try simp at this); omega
    go_wp2_with fail
    refine (HR.out _).mono ?_; rintro e w2 ⟨rfl, hb2⟩
    replace hb2 := bstep hb1 hb2
    clear hc1 hf1 hb1
    obtain ⟨hc2, hf2⟩ := bcell hb2
    obtain ⟨hz0, hz1⟩ : w.heap.size < w2.heap.size ∧ w.heap.size + 1 < w2.heap.size := by have := hb2.size; (try simp at this); omega
    have hB2 : Below w.heap.size w w2 := bfin (by go_grown) hb2
    go_wp2_with fail
    have hall := And.intro hc2 (And.intro hz0 (hz1))
    refine bodyPost_ret (v := .tuple #[(.agg #[.int .i64 x, .int .i64 y, .int .i64 z, .int .i64 u]), (.int .i64 v), (.int .i64 0)]) (by first | (simp [results, Try.results31, go_sem]; done) | (simp [results, Try.results31, go_sem, hall] <;> rfl)) rfl ⟨rfl, by go_grown⟩
  · rw [show rtR a b c d = ((⟨0, 0, 0, 0⟩, 0), kcode a b c d 3) from if_neg hk]
    have hne : (kcode a b c d 3 != 0) = true := by simpa using hk
    clear hk
    generalize kcode a b c d 3 = K at *
    go_enter Try.func31, Try.ntmps31
    go_wp2_with fail
    refine (H0.out _).mono ?_; rintro e w1 ⟨rfl, hb1⟩
    obtain ⟨hc1, hf1⟩ := bcell hb1
    obtain ⟨hz0, hz1⟩ : w.heap.size < w1.heap.size ∧ w.heap.size + 1 < w1.heap.size := by have := hb1.size; (try simp at this); omega
    have hB1 : Below w.heap.size w w1 := bfin (by go_grown) hb1
    go_wp2_with fail
    have hall := And.intro hc1 (And.intro hz0 (hz1))
    refine bodyPost_ret (v := .tuple #[(.agg #[.int .i64 0, .int .i64 0, .int .i64 0, .int .i64 0]), (.int .i64 0), (.int .i64 K)]) (by first | (simp [results, Try.results31, go_sem]; done) | (simp [results, Try.results31, go_sem, hall] <;> rfl)) rfl ⟨rfl, by go_grown⟩

end Go.Proofs.Ytencfmipplgnkaa
