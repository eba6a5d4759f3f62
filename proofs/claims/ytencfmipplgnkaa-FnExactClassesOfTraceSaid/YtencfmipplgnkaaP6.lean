/- Contracts: the least turned word. -/
import Derived.Test.YtencfmipplgnkaaC2
import Derived.Test.YtencfmipplgnkaaNa
namespace Go.Proofs.Ytencfmipplgnkaa
open Go.RowKit
attribute [local go_sem] Lib.run_min_strs
set_option maxRecDepth 100000 in
set_option maxHeartbeats 1000000 in
theorem least_any (l : List Bool) (w : World) (hl : l.length ≤ 1000) :
    Calls Try.prog 76 #[.string (wS l)] w fun e w' => e = .returned (.string (wS (leastW l))) ∧ Below w.heap.size w w' := by
  have hsz := wS_size l
  have HT := Lib.hid (fun k => wS_turn (l := l) (k := k) rfl)
  have HM := Lib.hid (min_turn l)
  have HE := Lib.hid (show bestW l l.length = leastW l from rfl)
  have HZ := Lib.hid (show wS (bestW l 0) = wS l from rfl)
  have HZ2 := Lib.hid (fun k => (wS_size (turn k l)).trans turn_len)
  generalize l.length = n at *
  generalize leastW l = L at *
  generalize hb : (fun k => wS (bestW l k)) = F at *
  have HF := Lib.hid (fun k => congrFun hb k)
  clear hb
  generalize wS l = S at *
  go_enter Try.func76, Try.ntmps76
  go_wp2_with fail
  go_loopw [3, 4, 8] (fun u _ i wr => ∃ k : Nat, i = (.int .i64 ((k : Int))) ∧ k ≤ n ∧ u = .string (F k) ∧ Hid (Below w.heap.size w wr)) (fun _ _ i _ => n - (intOf i).toNat)
  case atStart => exact ⟨0, rfl, Nat.zero_le _, by rw [← HF.out 0, HZ.out], Lib.hid (Below.refl _ _)⟩
  case round =>
    obtain ⟨k, rfl, hk, rfl, HB⟩ := hrel
    by_cases hlt : k < n
    · have hlt2 : (k : Int) < (n : Int) := by omega
      have hT := HT.out k
      have hR := HZ2.out k
      have hM := HM.out k
      generalize wS (turn k l) = R at *
      have hF0 : wS (bestW l k) = F k := HF.out k
      have hF1 : wS (bestW l (k + 1)) = F (k + 1) := HF.out (k + 1)
      rw [hF0, hF1] at hM
      clear hF0 hF1
      generalize hB : F (k + 1) = B at *
      have HBq := Lib.hid hB
      clear hB
      generalize F k = A at *
      go_wp2_with fail
      refine wp_region_ext (by kernel_rfl) (by kernel_rfl) ?_
      repeat (go_big_quiet_step (fail))
      refine wpQuiet_nil ?_
      intro w6 hb6
      obtain ⟨hc6, hf6⟩ := bcell hb6
      go_wp2_with fail
      go_roundw
      case rel => exact ⟨k + 1, by go_num, by omega, by rw [HBq.out], Lib.hid (HB.out.trans (hb6.mono HB.out.size))⟩
      case measure => simp [intOf]; omega
    · obtain rfl : k = n := by omega
      go_wp2_with fail
      go_ret
      exact ⟨by rw [← HF.out k, HE.out]; rfl, HB.out⟩
set_option maxRecDepth 100000 in
set_option maxHeartbeats 1000000 in
theorem l04Least_any (l : List Bool) (w : World) (hl : l.length ≤ 1000) (h0 : 0 < l.length) :
    Calls Try.prog 73 #[.string (wS l)] w fun e w' => e = .returned (.string (wS (leastW l))) ∧ Below w.heap.size w w' := by
  have hsz := wS_size l
  have HT := Lib.hid (fun k => wS_turn (l := l) (k := k) rfl)
  have HS := Lib.hid (bestW_succ l)
  have HE := Lib.hid (show bestW l l.length = leastW l from rfl)
  have HZ := Lib.hid (show wS (bestW l 1) = wS l by rw [bestW_one])
  have HZ2 := Lib.hid (fun k => (wS_size (turn k l)).trans turn_len)
  generalize l.length = n at *
  generalize leastW l = L at *
  generalize wS l = S at *
  go_enter Try.func73, Try.ntmps73
  go_wp2_with fail
  go_loopw [3, 4, 5] (fun u i _ wr => ∃ k : Nat, i = (.int .i64 ((k : Int))) ∧ 1 ≤ k ∧ k ≤ n ∧ u = .string (wS (bestW l k)) ∧ Hid (Below w.heap.size w wr)) (fun _ i _ _ => n - (intOf i).toNat)
  case atStart => exact ⟨1, rfl, by omega, by omega, by rw [HZ.out], Lib.hid (Below.refl _ _)⟩
  case round =>
    obtain ⟨k, rfl, hk0, hk, rfl, HB⟩ := hrel
    by_cases hlt : k < n
    · have hlt2 : (k : Int) < (n : Int) := by omega
      have hT := HT.out k
      have hR := HZ2.out k
      have hL := bytesLess_wS (turn k l) (bestW l k)
      have hS := HS.out k
      by_cases hc : bs (turn k l) < bs (bestW l k)
      · rw [decide_eq_true hc] at hL
        rw [if_pos hc] at hS
        have HS2 := Lib.hid hS
        clear hS hc
        generalize hq : wS (turn k l) = R at *
        have HQ := Lib.hid hq
        clear hq
        generalize wS (bestW l k) = A at *
        go_wp2_with fail
        refine wp_region_ext (by kernel_rfl) (by kernel_rfl) ?_
        repeat (go_big_quiet_step (fail))
        refine wpQuiet_nil ?_
        intro w6 hb6
        obtain ⟨hc6, hf6⟩ := bcell hb6
        go_wp2_with fail
        go_roundw
        case rel => exact ⟨k + 1, by go_num, by omega, by omega, by rw [HS2.out, HQ.out], Lib.hid (HB.out.trans (hb6.mono HB.out.size))⟩
        case measure => simp [intOf]; omega
      · rw [decide_eq_false hc] at hL
        rw [if_neg hc] at hS
        have HS2 := Lib.hid hS
        clear hS hc
        generalize wS (turn k l) = R at *
        generalize hq : wS (bestW l k) = A at *
        have HQ := Lib.hid hq
        clear hq
        go_wp2_with fail
        refine wp_region_ext (by kernel_rfl) (by kernel_rfl) ?_
        repeat (go_big_quiet_step (fail))
        refine wpQuiet_nil ?_
        intro w6 hb6
        obtain ⟨hc6, hf6⟩ := bcell hb6
        go_wp2_with fail
        go_roundw
        case rel => exact ⟨k + 1, by go_num, by omega, by omega, by rw [HS2.out, HQ.out], Lib.hid (HB.out.trans (hb6.mono HB.out.size))⟩
        case measure => simp [intOf]; omega
    · obtain rfl : k = n := by omega
      go_wp2_with fail
      go_ret
      exact ⟨by rw [HE.out]; rfl, HB.out⟩
end Go.Proofs.Ytencfmipplgnkaa
