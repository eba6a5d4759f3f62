/- Contracts: the word of a positive matrix, by the model. -/
import Derived.Test.YtencfmipplgnkaaP3
import Derived.Test.YtencfmipplgnkaaP4
namespace Go.Proofs.Ytencfmipplgnkaa
open Go.RowKit
set_option maxRecDepth 100000 in
set_option maxHeartbeats 1000000 in
theorem sPositiveWord_any (l : List Bool) (w : World) (hl : l.length ≤ 200) (hlow : Low (wM l)) :
    Calls Try.prog 72 #[(.agg #[.int .i64 ((wM l).a), .int .i64 ((wM l).b), .int .i64 ((wM l).c), .int .i64 ((wM l).d)])] w fun e w' => e = .returned (.tuple #[.string (wS l), (.int .i64 0)]) ∧ Below w.heap.size w w' := by
  have hp := wM_pos l
  have HC := Lib.hid (fun W => l02Given_yes _ _ _ _ W (isMat_low hp hlow) (by have := hp.a; omega) hp.b hp.c (by have := hp.d; omega))
  have HRu := Lib.hid (fun W => l02Runs_any l W (by omega) hlow)
  clear hp hlow
  generalize (wM l).a = x at *
  generalize (wM l).b = y at *
  generalize (wM l).c = z at *
  generalize (wM l).d = s at *
  go_enter Try.func72, Try.ntmps72
  go_wp2_with fail
  refine (HC.out _).mono ?_; rintro e w1 ⟨rfl, hb1⟩
  obtain ⟨hc1, hf1⟩ := bcell hb1
  go_wp2_with fail
  refine (HRu.out _).mono ?_; rintro e w3 ⟨D, v, rfl, HR, ho, hb3⟩
  have HR2 := Lib.hid HR
  obtain ⟨A, cap, rfl, -, hcm, hat⟩ := own_view ho
  have R := Lib.hid hat
  have T := Lib.hid (show Below w.heap.size w w3 from bfin (bfin (by go_grown) hb1) hb3)
  have hD := expR_len_le HR
  clear HR ho hat HRu HC
  go_wp2_with fail
  go_loopw [6, 7] (fun u i wr => ∃ k : Nat, i = (.int .i64 ((k : Int))) ∧ k ≤ D.length ∧ u = (.int .i64 (((soFar D k).length : Int))) ∧ Hid (Below w3.heap.size w3 wr)) (fun _ i _ => D.length - (intOf i).toNat)
  case atStart => exact ⟨0, rfl, Nat.zero_le _, rfl, Lib.hid (Below.refl _ _)⟩
  case round =>
    obtain ⟨k, rfl, hk, rfl, HB⟩ := hrel
    by_cases hlt : k < D.length
    · obtain ⟨n, hd, he, hle⟩ := soFar_next HR2.out hlt
      obtain ⟨b, rfl, -, hbl, hc, -⟩ := R.out (by omega)
      have hck := hc k (.int .i64 ((n : Int))) (by simp [ints, hd])
      rw [← HB.out.cell (p := ⟨b, k, none⟩) hbl] at hck
      have hbw : b < wr.heap.size := Nat.lt_of_lt_of_le hbl HB.out.size
      have hlt2 : (k : Int) < (D.length : Int) := by omega
      have HE := Lib.hid (show (soFar D (k + 1)).length = (soFar D k).length + n by rw [he]; simp)
      generalize (soFar D k).length = m at *
      clear he hc hd
      go_wp2_with fail
      go_roundw
      case rel => exact ⟨k + 1, by go_num, by omega, by rw [HE.out]; go_num, HB⟩
      case measure => simp [intOf]; omega
    · obtain rfl : k = D.length := by omega
      have HE := Lib.hid (soFar_all HR2.out)
      have hll : (soFar D D.length).length ≤ 200 := by rw [HE.out]; exact hl
      generalize (soFar D D.length).length = m at *
      have T2 := Lib.hid (T.out.trans (HB.out.mono T.out.size))
      have R2 := Lib.hid (R.out.below HB.out)
      clear R T HB
      clear hlt hk
      go_wp2_with fail
      generalize wr = w3 at *
      go_loopw [8, 9, 10] (fun u i _ wr => ∃ k : Nat, i = (.int .i64 ((k : Int))) ∧ k ≤ D.length ∧ u = .string (wS (soFar D k)) ∧ Hid (Below w3.heap.size w3 wr)) (fun _ i _ _ => D.length - (intOf i).toNat)
      case atStart => exact ⟨0, rfl, Nat.zero_le _, rfl, Lib.hid (Below.refl _ _)⟩
      case round =>
        obtain ⟨k, rfl, hk, rfl, HB⟩ := hrel
        by_cases hlt : k < D.length
        · obtain ⟨n, hd, he, hle⟩ := soFar_next HR2.out hlt
          obtain ⟨b, rfl, -, hbl, hc, -⟩ := R2.out (by omega)
          have hc0 := Lib.hid (hc k (.int .i64 ((n : Int))) (by simp [ints, hd]))
          have hck := hc0.out
          rw [← HB.out.cell (p := ⟨b, k, none⟩) hbl] at hck
          have hbw : b < wr.heap.size := Nat.lt_of_lt_of_le hbl HB.out.size
          have hlt2 : (k : Int) < (D.length : Int) := by omega
          have HE := Lib.hid he
          have hrl : (soFar D k).length + n ≤ 200 := by omega
          generalize soFar D k = P at *
          clear he hc hd
          cases hev : evB k
          · have hmod := evMod hev
            rw [hev] at HE
            go_wp2_with fail
            go_loopw [8, 10] (fun u i wq => ∃ j : Nat, i = (.int .i64 ((j : Int))) ∧ j ≤ n ∧ u = .string (wS (P ++ List.replicate j false)) ∧ Hid (Below w3.heap.size w3 wq)) (fun _ i _ => n - (intOf i).toNat)
            case atStart => exact ⟨0, rfl, Nat.zero_le _, by simp, HB⟩
            case round =>
              clear HB hck hbw
              obtain ⟨j, rfl, hj, rfl, HB⟩ := hrel
              by_cases hj1 : j < n
              · have hj2 : (j : Int) < (n : Int) := by omega
                have hck := hc0.out
                rw [← HB.out.cell (p := ⟨b, k, none⟩) hbl] at hck
                have hbw : b < wr.heap.size := Nat.lt_of_lt_of_le hbl HB.out.size
                have hs2 := wS_size (P ++ List.replicate j false)
                simp only [List.length_append, List.length_replicate] at hs2
                have HX := Lib.hid (show wS (P ++ List.replicate (j + 1) false) = wS (P ++ List.replicate j false) ++ ⟨#[76]⟩ by
                  rw [List.replicate_succ', ← List.append_assoc, ← wS_add]; rfl)
                generalize wS (P ++ List.replicate j false) = S at *
                go_wp2_with fail
                go_roundw
                case rel => exact ⟨j + 1, by go_num, by omega, by rw [HX.out], HB⟩
                case measure => simp [intOf]; omega
              · obtain rfl : j = n := by omega
                have hck := hc0.out
                rw [← HB.out.cell (p := ⟨b, k, none⟩) hbl] at hck
                have hbw : b < wr.heap.size := Nat.lt_of_lt_of_le hbl HB.out.size
                have hj2 : ¬ (j : Int) < (j : Int) := by omega
                go_wp2_with fail
                go_roundw
                case rel => exact ⟨k + 1, by go_num, by omega, by rw [HE.out], HB⟩
                case measure => simp [intOf]; omega
          · have hmod := evMod hev
            rw [hev] at HE
            go_wp2_with fail
            go_loopw [8, 10] (fun u i wq => ∃ j : Nat, i = (.int .i64 ((j : Int))) ∧ j ≤ n ∧ u = .string (wS (P ++ List.replicate j true)) ∧ Hid (Below w3.heap.size w3 wq)) (fun _ i _ => n - (intOf i).toNat)
            case atStart => exact ⟨0, rfl, Nat.zero_le _, by simp, HB⟩
            case round =>
              clear HB hck hbw
              obtain ⟨j, rfl, hj, rfl, HB⟩ := hrel
              by_cases hj1 : j < n
              · have hj2 : (j : Int) < (n : Int) := by omega
                have hck := hc0.out
                rw [← HB.out.cell (p := ⟨b, k, none⟩) hbl] at hck
                have hbw : b < wr.heap.size := Nat.lt_of_lt_of_le hbl HB.out.size
                have hs2 := wS_size (P ++ List.replicate j true)
                simp only [List.length_append, List.length_replicate] at hs2
                have HX := Lib.hid (show wS (P ++ List.replicate (j + 1) true) = wS (P ++ List.replicate j true) ++ ⟨#[84]⟩ by
                  rw [List.replicate_succ', ← List.append_assoc, ← wS_add]; rfl)
                generalize wS (P ++ List.replicate j true) = S at *
                go_wp2_with fail
                go_roundw
                case rel => exact ⟨j + 1, by go_num, by omega, by rw [HX.out], HB⟩
                case measure => simp [intOf]; omega
              · obtain rfl : j = n := by omega
                have hck := hc0.out
                rw [← HB.out.cell (p := ⟨b, k, none⟩) hbl] at hck
                have hbw : b < wr.heap.size := Nat.lt_of_lt_of_le hbl HB.out.size
                have hj2 : ¬ (j : Int) < (j : Int) := by omega
                go_wp2_with fail
                go_roundw
                case rel => exact ⟨k + 1, by go_num, by omega, by rw [HE.out], HB⟩
                case measure => simp [intOf]; omega
        · obtain rfl : k = D.length := by omega
          go_wp2_with fail
          go_ret2
          exact ⟨by rw [HE.out]; rfl, T2.out.trans (HB.out.mono T2.out.size)⟩
end Go.Proofs.Ytencfmipplgnkaa
