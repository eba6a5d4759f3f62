/- Contracts: the program's values of a form. -/
import Derived.Test.YtcaiofhdcffogaaGreatC109
import Derived.Test.YtcaiofhdcffogaaGreatCb
import Derived.Test.YtcaiofhdcffogaaGreatNa
namespace Go.Proofs.YtcaiofhdcffogaaGreat
open Go.RowKit
structure VRes where
  xs : List Int
  c : Int
def valsRes (a b c n : Int) : VRes := if isForm a b c = true then (if inB n 0 10 = true then ⟨sall (formAt a b c) n (2 * n.toNat + 1) (n.toNat + 1), 0⟩ else ⟨[], 2⟩) else ⟨[], 1⟩
theorem formAt_neg (a b c x y : Int) : formAt a b c (-x) (-y) = formAt a b c x y := by
  unfold formAt
  simp only [Int.mul_neg, Int.neg_mul, Int.neg_neg]
set_option maxRecDepth 100000 in
set_option maxHeartbeats 4000000 in
theorem ValuesOf_any (a b c n : Int) (w : World) :
    Calls Tryz.prog 20 #[(.agg #[.int .i64 a, .int .i64 b, .int .i64 c]), (.int .i64 n)] w fun e w' => ∃ v, e = .returned (.tuple #[v, (.int .i64 ((valsRes a b c n).c))]) ∧ w'.ownsRow w.heap.size 2 1 v (valsRes a b c n).xs.length (ints (valsRes a b c n).xs) ∧ Below w.heap.size w w' := by
  have HF := Lib.hid (fun W => IsForm_any a b c W)
  have H1 := Lib.hid (fun W => within_any n 0 10 W)
  cases hf : isForm a b c
  · rw [show valsRes a b c n = ⟨[], 1⟩ by simp [valsRes, hf]]
    rw [hf] at HF
    go_enter Tryz.func20, Tryz.ntmps20
    go_wp2_with fail
    refine (HF.out _).mono ?_; rintro e w1 ⟨rfl, hb1⟩
    obtain ⟨hc1, hf1⟩ := bcell hb1
    have hB1 : Below w.heap.size w w1 := bfin (by go_grown) hb1
    go_wp2_with fail
    go_ret2
    exact ⟨_, rfl, World.ownsRow_nil _ _ _ _, by go_grown⟩
  rw [hf] at HF
  cases hn : inB n 0 10
  · rw [show valsRes a b c n = ⟨[], 2⟩ by simp [valsRes, hf, hn]]
    rw [hn] at H1
    go_enter Tryz.func20, Tryz.ntmps20
    go_wp2_with fail
    refine (HF.out _).mono ?_; rintro e w1 ⟨rfl, hb1⟩
    obtain ⟨hc1, hf1⟩ := bcell hb1
    go_wp2_with fail
    refine (H1.out _).mono ?_; rintro e w' ⟨rfl, rfl⟩
    have hB1 : Below w.heap.size w w1 := bfin (by go_grown) hb1
    go_wp2_with fail
    go_ret2
    exact ⟨_, rfl, World.ownsRow_nil _ _ _ _, by go_grown⟩
  rw [hn] at H1
  rw [show valsRes a b c n = ⟨sall (formAt a b c) n (2 * n.toNat + 1) (n.toNat + 1), 0⟩ by simp [valsRes, hf, hn]]
  obtain ⟨n0, n1⟩ := inB_iff.1 hn
  have hsm := Lib.hid (small_of hf)
  clear hf hn
  obtain ⟨N, rfl⟩ := Int.eq_ofNat_of_zero_le n0
  rw [Int.toNat_natCast, ← vals_eq (formAt_neg a b c) N]
  have HAt := Lib.hid (fun x y W x0 x1 y0 y1 => at_any a b c x y W hsm.out x0 x1 y0 y1)
  generalize formAt a b c = f at *
  have hM : ((2 * N + 1 : Nat) : Int) = 2 * N + 1 := by omega
  generalize 2 * N + 1 = M at *
  have HSort := Lib.hid (fun v B k xs W h1 h2 h => sortS_own v B k xs W h1 h2 h)
  have HComp := Lib.hid (fun v B k xs W h1 h2 h => compactI_own v B k xs W h1 h2 h)
  go_enter Tryz.func20, Tryz.ntmps20
  go_wp2_with fail
  refine (HF.out _).mono ?_; rintro e w1 ⟨rfl, hb1⟩
  obtain ⟨hc1, hf1⟩ := bcell hb1
  go_wp2_with fail
  refine (H1.out _).mono ?_; rintro e w' ⟨rfl, rfl⟩
  have hz0 : w.heap.size < w1.heap.size := by have := hb1.size; (try simp at this); omega
  go_wp2_with fail
  have hB1 : Below w.heap.size w w1 := bfin (by go_grown) hb1
  have s0 : w1.cell? ⟨w.heap.size, 0, none⟩ = some (.int .i64 a) := by rw [hc1 _ _ (by simp)]; go_simp
  have s1 : w1.cell? ⟨w.heap.size, 1, none⟩ = some (.int .i64 b) := by rw [hc1 _ _ (by simp)]; go_simp
  have s2 : w1.cell? ⟨w.heap.size, 2, none⟩ = some (.int .i64 c) := by rw [hc1 _ _ (by simp)]; go_simp
  clear hc1 hf1 hb1
  have hVl := Lib.hid (fun k => vall_len f N M k)
  have hRl := Lib.hid (fun x k => vrow_len f N x k)
  have hKM := Lib.hid (fun k (h : k ≤ M) => show k * M ≤ 441 from Nat.mul_le_mul (show k ≤ 21 by omega) (show M ≤ 21 by omega))
  go_loopw [6, 7] (fun v i wr => ∃ (k : Nat) (x : Int), i = (.int .i64 x) ∧ Hid (x = -(N : Int) + k) ∧ k ≤ M ∧ Hid (wr.ownsRow w1.heap.size 2 1 v (vall f N M k).length (ints (vall f N M k))) ∧ Below w1.heap.size w1 wr) (fun _ i _ => M - (intOf i + N).toNat)
  case atStart => exact ⟨0, -(N : Int), rfl, Lib.hid (by omega), Nat.zero_le _, Lib.hid (World.ownsRow_lit w1 #[] 0 (Nat.le_refl _) (by simp [maxLen]) rfl), by go_grown⟩
  case round =>
    obtain ⟨k, x, rfl, hx, hk, HO, hb⟩ := hrel
    have hx1 : -(N : Int) + k ≤ x := by rw [hx.out]; omega
    have hx2 : x ≤ -(N : Int) + k := by rw [hx.out]; omega
    by_cases hlt : k < M
    · have hle : x ≤ N := by omega
      go_wp2_with fail
      go_loopw [6, 8] (fun v i wr => ∃ (j : Nat) (y : Int), i = (.int .i64 y) ∧ Hid (y = -(N : Int) + j) ∧ j ≤ M ∧ Hid (wr.ownsRow w1.heap.size 2 1 v (vall f N M k ++ vrow f N x j).length (ints (vall f N M k ++ vrow f N x j))) ∧ Below w1.heap.size w1 wr) (fun _ i _ => M - (intOf i + N).toNat)
      case atStart => exact ⟨0, -(N : Int), rfl, Lib.hid (by omega), Nat.zero_le _, Lib.hid (by simpa [vrow] using HO.out), hb⟩
      case round =>
        obtain ⟨j, y, rfl, hy, hj, HO, hb⟩ := hrel
        have hy1 : -(N : Int) + j ≤ y := by rw [hy.out]; omega
        have hy2 : y ≤ -(N : Int) + j := by rw [hy.out]; omega
        have hsz := hb.size
        have t0 := (hb.cell (p := ⟨w.heap.size, 0, none⟩) hz0).trans s0
        have t1 := (hb.cell (p := ⟨w.heap.size, 1, none⟩) hz0).trans s1
        have t2 := (hb.cell (p := ⟨w.heap.size, 2, none⟩) hz0).trans s2
        by_cases hlt2 : j < M
        · have hle2 : y ≤ N := by omega
          have hlen : (vall f N M k ++ vrow f N x j).length ≤ 1000 := by
            have := hKM.out k hk
            rw [List.length_append, hVl.out, hRl.out]; omega
          have HR := Lib.hid (show vall f N M k ++ vrow f N x (j + 1) = (vall f N M k ++ vrow f N x j) ++ [f x y] by rw [hy.out, List.append_assoc]; rfl)
          generalize vall f N M k ++ vrow f N x j = X at *
          go_wp2_with fail
          with_reducible refine (HAt.out x y _ (by omega) (by omega) (by omega) (by omega)).mono ?_; rintro e w4 ⟨rfl, hb4⟩
          have HO4 := Lib.hid (own_below HO.out hb4)
          have hB4 := hb.trans (hb4.mono hsz)
          have hs4 := hB4.size
          clear hb4
          go_wp2_with (at_builtin; refine app_one elV rfl _ _ rfl rfl rfl (by simp) (HO4.out) (hB4) rfl (by intro u hu; simp at hu; first | (subst hu; rfl) | (rcases hu with rfl | rfl <;> rfl) | (rcases hu with rfl | rfl | rfl <;> rfl) | (rcases hu with rfl | rfl | rfl | rfl <;> rfl)) (hs4) (by omega) ?_; intro v' w5 hown5 hb5 hg5; have HO5 := Lib.hid hown5; clear hown5 hg5)
          go_wp2_with fail
          go_roundw
          case rel => exact ⟨j + 1, y + 1, by go_num, Lib.hid (by omega), by omega, Lib.hid (by rw [HR.out]; simpa [ints] using HO5.out), hb5⟩
          case measure => simp [intOf]; omega
        · obtain rfl : j = M := by omega
          have HR := Lib.hid (show vall f N j (k + 1) = vall f N j k ++ vrow f N x j by rw [hx.out]; rfl)
          go_wp2_with fail
          go_roundw
          case rel => exact ⟨k + 1, x + 1, by go_num, Lib.hid (by omega), by omega, Lib.hid (by rw [HR.out]; exact HO.out), hb⟩
          case measure => simp [intOf]; omega
    · obtain rfl : k = M := by omega
      have hlen : (vall f N k k).length ≤ 1000 := by
        have := hKM.out k hk
        rw [hVl.out]; omega
      obtain ⟨X, hX⟩ : ∃ X, vall f N k k = X := ⟨_, rfl⟩
      rw [hX] at HO hlen
      have HXe := Lib.hid hX
      clear hX
      go_wp2_with fail
      refine (HSort.out _ _ _ _ _ rfl (by omega) HO.out).mono ?_; rintro e w5 ⟨rfl, ho5, hg5⟩
      have hb5 := below_mark hb HO.out hg5 (Nat.le_refl _)
      have HO5 := Lib.hid ho5
      clear ho5 hg5
      go_wp2_with fail
      refine (HComp.out _ _ _ _ _ (List.length_mergeSort _) (by omega) HO5.out).mono ?_; rintro e w6 ⟨v', rfl, ho6, hg6⟩
      have hb6 := below_mark hb5 HO5.out hg6 (Nat.le_refl _)
      have HO6 := Lib.hid ho6
      clear ho6 hg6
      go_wp2_with fail
      go_ret2
      exact ⟨_, rfl, by rw [HXe.out]; exact own_baseV HO6.out hB1.size, hB1.trans (hb6.mono hB1.size)⟩
end Go.Proofs.YtcaiofhdcffogaaGreat
