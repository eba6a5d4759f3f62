/- Contracts: a great law's own helpers: a code's length, lists of integers compared, a number found. -/
import Derived.Test.YtcaiofhdcffogaaGreatD1
namespace Go.Proofs.YtcaiofhdcffogaaGreat
open Go.RowKit
theorem big_any (a : Option Addr) (len cap : Nat) (w : World) (hl : len ≤ maxLen) :
    Calls Tryz.prog 4 #[.slice a len cap] w fun e w' => e = .returned (.bool (decide (4096 < len))) ∧ w = w' := by
  unfold maxLen at hl
  by_cases h : 4096 < len
  all_goals
    go_enter Tryz.func4, Tryz.ntmps4
    go_wp2
    go_ret
    exact ⟨ret_bool (by simp; omega), rfl⟩
set_option maxHeartbeats 1000000 in
theorem likeInts_same (A A' : Option Addr) (n cap cap' B B' : Nat) (xs : List Int) (w : World) (hl : xs.length = n) (hn : n ≤ maxLen) (h : RowAt w B A n (ints xs)) (h' : RowAt w B' A' n (ints xs)) :
    Calls Tryz.prog 22 #[.slice A n cap, .slice A' n cap'] w fun e w' => e = .returned (.bool true) ∧ Below w.heap.size w w' := by
  have HL := Lib.hid hl
  unfold maxLen at hn
  clear hl
  go_enter Tryz.func22, Tryz.ntmps22
  go_wp2_with fail
  go_loopw [5] (fun i wr => ∃ k : Nat, i = (.int .i64 ((k : Int))) ∧ k ≤ n ∧ Below w.heap.size w wr) (fun i _ => n - (intOf i).toNat)
  case atStart => exact ⟨0, rfl, Nat.zero_le _, Below.refl _ _⟩
  case round =>
    obtain ⟨k, rfl, hk, hb⟩ := hrel
    by_cases hlt : k < n
    · obtain ⟨b, rfl, -, -, hc, -⟩ := (h.below hb) (by omega)
      obtain ⟨b', rfl, -, -, hc', -⟩ := (h'.below hb) (by omega)
      have h1 := hc k _ (ints_at (by rw [HL.out]; exact hlt))
      have h2 := hc' k _ (ints_at (by rw [HL.out]; exact hlt))
      generalize xs.getD k 0 = x at h1 h2
      have hne : (x != x) = false := by simp
      clear hc hc' h h'
      go_wp2_with fail
      go_quiet (fail)
      go_wp2_with fail
      go_roundw
      case rel => exact ⟨k + 1, by go_num, by omega, below_drewN hb _⟩
      case measure => simp [intOf]; omega
    · clear h h'
      go_wp2_with fail
      go_ret
      exact ⟨rfl, hb⟩
set_option maxRecDepth 100000 in
set_option maxHeartbeats 1000000 in
theorem hasInt_yes (A : Option Addr) (n cap B : Nat) (xs : List Int) (x : Int) (w : World) (hl : xs.length = n) (hn : n ≤ maxLen) (hx : x ∈ xs) (h : RowAt w B A n (ints xs)) :
    Calls Tryz.prog 23 #[.slice A n cap, (.int .i64 x)] w fun e w' => e = .returned (.bool true) ∧ w = w' := by
  obtain ⟨m, hm, hxm⟩ : ∃ m, m < xs.length ∧ xs.getD m 0 = x := by
    obtain ⟨m, hm, e⟩ := List.getElem_of_mem hx
    exact ⟨m, hm, by simp [List.getD, List.getElem?_eq_getElem hm, e]⟩
  have HX := Lib.hid hxm
  have HL := Lib.hid hl
  rw [hl] at hm
  unfold maxLen at hn
  clear hl hx hxm
  obtain ⟨b, rfl, -, hlt1, hc, -⟩ := h (by omega)
  clear h
  go_enter Tryz.func23, Tryz.ntmps23
  go_wp2_with fail
  go_loop [5] (fun i => ∃ k : Nat, i = (.int .i64 ((k : Int))) ∧ k ≤ m) (fun i => n - (intOf i).toNat)
  case atStart => exact ⟨0, rfl, Nat.zero_le _⟩
  case round =>
    obtain ⟨k, rfl, hk⟩ := hrel
    have hkn : k < n := by omega
    have h1 := hc k _ (ints_at (by rw [HL.out]; exact hkn))
    by_cases he : xs.getD k 0 = x
    · rw [he] at h1
      clear hc
      go_wp2_with fail
      go_ret
      exact ⟨rfl, rfl⟩
    · have hkm : k < m := by
        rcases Nat.lt_or_ge k m with h | h
        · exact h
        · obtain rfl : k = m := by omega
          exact absurd HX.out he
      have he2 : (xs.getD k 0 == x) = false := by simpa using he
      clear HX
      generalize xs.getD k 0 = y at *
      clear hc
      go_wp2_with fail
      go_round
      case rel => exact ⟨k + 1, by go_num, by omega⟩
      case measure => simp [intOf]; omega
theorem hasInt_ext (A : Option Addr) (n cap B : Nat) (xs : List Int) (x : Int) (w : World) (hl : xs.length = n) (hn : n ≤ maxLen) (hx : x ∈ xs) (h : RowAt w B A n (ints xs)) (s : Ext w.heap.size w) :
    Calls Tryz.prog 23 #[.slice A n cap, (.int .i64 x)] s.w fun e w' => e = .returned (.bool true) ∧ Below s.w.heap.size s.w w' :=
  (hasInt_yes A n cap B xs x s.w hl hn hx (h.below s.h)).mono fun _ _ ⟨he, hw⟩ => ⟨he, by rw [← hw]; exact Below.refl _ _⟩
end Go.Proofs.YtcaiofhdcffogaaGreat
