/- Contracts: what compares two matrices. -/
import Derived.Test.YtencfmipplgnkaaC2
import Derived.Test.YtencfmipplgnkaaNa
namespace Go.Proofs.Ytencfmipplgnkaa
open Go.RowKit
set_option maxHeartbeats 1000000 in
theorem isNaN_any (x : Int) (w : World) : Calls Try.prog 203 #[(.int .i64 x)] w fun e w' => e = .returned (.bool false) ∧ w = w' := by
  have h : (x != x) = false := by simp
  go_enter Try.func203, Try.ntmps203
  go_wp2_with fail
  go_ret
  exact ⟨rfl, rfl⟩
theorem cmpI_lt {x y r : Int} (h : x < y) : cmpI x y r = -1 := by unfold cmpI; rw [if_pos h]
theorem cmpI_gt {x y r : Int} (h : y < x) : cmpI x y r = 1 := by unfold cmpI; rw [if_neg (by omega), if_pos h]
theorem cmpI_eq {x r : Int} : cmpI x x r = r := by unfold cmpI; rw [if_neg (by omega), if_neg (by omega)]
set_option maxHeartbeats 1000000 in
theorem cmpCompare_any (x y : Int) (w : World) : Calls Try.prog 175 #[(.int .i64 x), (.int .i64 y)] w fun e w' => e = .returned (.int .i64 (cmpI x y 0)) ∧ w = w' := by
  rcases (show x < y ∨ y < x ∨ x = y by omega) with h | h | h
  · rw [cmpI_lt h]
    go_enter Try.func175, Try.ntmps175
    go_wp2_with (go_at_call 203; refine (isNaN_any _ _).mono ?_; rintro e w' ⟨rfl, rfl⟩)
    go_ret
    exact ⟨rfl, rfl⟩
  · rw [cmpI_gt h]
    have h2 : ¬ x < y := by omega
    go_enter Try.func175, Try.ntmps175
    go_wp2_with (go_at_call 203; refine (isNaN_any _ _).mono ?_; rintro e w' ⟨rfl, rfl⟩)
    go_ret
    exact ⟨rfl, rfl⟩
  · subst h
    rw [cmpI_eq]
    have h2 : ¬ x < x := by omega
    go_enter Try.func175, Try.ntmps175
    go_wp2_with (go_at_call 203; refine (isNaN_any _ _).mono ?_; rintro e w' ⟨rfl, rfl⟩)
    go_ret
    exact ⟨rfl, rfl⟩
/-- What is left to compare behind k entries. -/
def restC (m n : Q4) : Nat → Int
  | 0 => cmpI m.a n.a (cmpI m.b n.b (cmpI m.c n.c (cmpI m.d n.d 0)))
  | 1 => cmpI m.b n.b (cmpI m.c n.c (cmpI m.d n.d 0))
  | 2 => cmpI m.c n.c (cmpI m.d n.d 0)
  | 3 => cmpI m.d n.d 0
  | _ => 0
def at4 (m : Q4) : Nat → Int
  | 0 => m.a
  | 1 => m.b
  | 2 => m.c
  | _ => m.d
theorem restC_step (m n : Q4) {k : Nat} (hk : k < 4) : restC m n k = cmpI (at4 m k) (at4 n k) (restC m n (k + 1)) := by
  rcases (show k = 0 ∨ k = 1 ∨ k = 2 ∨ k = 3 by omega) with rfl | rfl | rfl | rfl <;> rfl
set_option maxRecDepth 100000 in
set_option maxHeartbeats 1000000 in
theorem compare4_any (b b' cap cap' : Nat) (m n : Q4) (w : World) (h : ∀ k, k < 4 → w.cell? ⟨b, k, none⟩ = some (.int .i64 (at4 m k))) (h' : ∀ k, k < 4 → w.cell? ⟨b', k, none⟩ = some (.int .i64 (at4 n k))) :
    Calls Try.prog 128 #[.slice (some ⟨b, 0, none⟩) 4 cap, .slice (some ⟨b', 0, none⟩) 4 cap'] w fun e w' => e = .returned (.int .i64 (cmpQ m n)) ∧ w = w' := by
  have H := Lib.hid h
  have H' := Lib.hid h'
  have HQ := Lib.hid (show cmpQ m n = restC m n 0 from rfl)
  clear h h'
  go_enter Try.func128, Try.ntmps128
  go_wp2_with fail
  go_loopw [5, 6, 7, 8, 11] (fun _ _ _ _ i wr => ∃ k : Nat, i = (.int .i64 ((k : Int))) ∧ k ≤ 4 ∧ wr = w ∧ Hid (restC m n k = cmpQ m n)) (fun _ _ _ _ i _ => 4 - (intOf i).toNat)
  case atStart => exact ⟨0, rfl, by omega, rfl, Lib.hid HQ.out.symm⟩
  case round =>
    obtain ⟨k, rfl, hk, rfl, HR⟩ := hrel
    by_cases hlt : k < 4
    · have h1 := H.out k hlt
      have h2 := H'.out k hlt
      have HC := Lib.hid (fun W => cmpCompare_any (at4 m k) (at4 n k) W)
      have hs := restC_step m n hlt
      rw [HR.out] at hs
      have hlt2 : (k : Int) < 4 := by omega
      rcases (show at4 m k < at4 n k ∨ at4 n k < at4 m k ∨ at4 m k = at4 n k by omega) with g | g | g
      · rw [cmpI_lt g] at HC hs
        have HS := Lib.hid hs
        clear hs g
        go_wp2_with fail
        refine (HC.out _).mono ?_; rintro e w' ⟨rfl, rfl⟩
        go_wp2_with fail
        go_ret
        exact ⟨by rw [HS.out]; rfl, rfl⟩
      · rw [cmpI_gt g] at HC hs
        have HS := Lib.hid hs
        clear hs g
        go_wp2_with fail
        refine (HC.out _).mono ?_; rintro e w' ⟨rfl, rfl⟩
        go_wp2_with fail
        go_ret
        exact ⟨by rw [HS.out]; rfl, rfl⟩
      · rw [g, cmpI_eq] at HC hs
        rw [g] at h1
        have HS := Lib.hid hs
        clear hs g
        go_wp2_with fail
        refine (HC.out _).mono ?_; rintro e w' ⟨rfl, rfl⟩
        go_wp2_with fail
        go_roundw
        case rel => exact ⟨k + 1, by go_num, by omega, by first | rfl | trivial, Lib.hid HS.out.symm⟩
        case measure => simp [intOf]; omega
    · obtain rfl : k = 4 := by omega
      have HE := Lib.hid (show cmpQ m n = 0 from HR.out.symm)
      go_wp2_with fail
      go_ret
      exact ⟨by rw [HE.out]; rfl, rfl⟩
end Go.Proofs.Ytencfmipplgnkaa
