/- Contracts: the great law's own helpers: lists compared, a number found, a fraction of two numbers. -/
import Derived.Test.YtkhlgphmimddhaaD2
import Derived.Test.YtkhlgphmimddhaaC32
import Derived.Test.YtkhlgphmimddhaaC43
namespace Go.Proofs.Ytkhlgphmimddhaa
open Go.RowKit
theorem big_any (a : Option Addr) (len cap : Nat) (w : World) (hl : len ≤ maxLen) :
    Calls Try.prog 41 #[.slice a len cap] w fun e w' => e = .returned (.bool (decide (4096 < len))) ∧ w = w' := by
  unfold maxLen at hl
  by_cases h : 4096 < len
  all_goals
    go_enter Try.func41, Try.ntmps41
    go_wp2
    go_ret
    exact ⟨ret_bool (by simp; omega), rfl⟩
set_option maxHeartbeats 1000000 in
theorem likeInts_same (A A' : Option Addr) (n cap cap' B B' : Nat) (xs : List Int) (w : World) (hl : xs.length = n) (hn : n ≤ maxLen) (h : RowAt w B A n (ints xs)) (h' : RowAt w B' A' n (ints xs)) :
    Calls Try.prog 46 #[.slice A n cap, .slice A' n cap'] w fun e w' => e = .returned (.bool true) ∧ Below w.heap.size w w' := by
  have HL := Lib.hid hl
  unfold maxLen at hn
  clear hl
  go_enter Try.func46, Try.ntmps46
  go_wp2_with fail
  go_loopw [5] (fun i wr => ∃ k : Nat, i = (.int .i64 ((k : Int))) ∧ k ≤ n ∧ Below w.heap.size w wr) (fun i _ => n - (intOf i).toNat)
  case atStart => exact ⟨0, rfl, Nat.zero_le _, Below.refl _ _⟩
  case round =>
    obtain ⟨k, rfl, hk, hb⟩ := hrel
    by_cases hlt : k < n
    · obtain ⟨b, rfl, -, -, hc, -⟩ := (h.below hb) (by omega)
      obtain ⟨b', rfl, -, -, hc', -⟩ := (h'.below hb) (by omega)
      have h1 := hc k _ (ints_at (by rw [HL.out]; exact hlt))
      have h2 := hc' k _ (ints_at (by rw [HL.out]; exact hlt))
      generalize xs.getD k 0 = x at h1 h2
      have hne : (x != x) = false := by simp
      clear hc hc' h h'
      go_wp2_with fail
      go_quiet (fail)
      go_wp2_with fail
      go_roundw
      case rel => exact ⟨k + 1, by go_num, by omega, below_drewN hb _⟩
      case measure => simp [intOf]; omega
    · clear h h'
      go_wp2_with fail
      go_ret
      exact ⟨rfl, hb⟩
attribute [local go_sem] eqFrac
set_option maxRecDepth 100000 in
set_option maxHeartbeats 2000000 in
theorem fractions5_same (A A' : Option Addr) (n cap cap' B B' : Nat) (xs : List Int) (w : World) (hl : xs.length = n * 2) (hn : n ≤ maxLen) (h : RowAt w B A n (ints xs)) (h' : RowAt w B' A' n (ints xs)) :
    Calls Try.prog 51 #[.slice A n cap, .slice A' n cap'] w fun e w' => e = .returned (.bool true) ∧ Below w.heap.size w w' := by
  have HL := Lib.hid hl
  unfold maxLen at hn
  clear hl
  go_enter Try.func51, Try.ntmps51
  go_wp2_with fail
  go_loopw [5] (fun i wr => ∃ k : Nat, i = (.int .i64 ((k : Int))) ∧ k ≤ n ∧ Below w.heap.size w wr) (fun i _ => n - (intOf i).toNat)
  case atStart => exact ⟨0, rfl, Nat.zero_le _, Below.refl _ _⟩
  case round =>
    obtain ⟨k, rfl, hk, hb⟩ := hrel
    by_cases hlt : k < n
    · obtain ⟨b, rfl, -, hl1, hc, -⟩ := (h.below hb) (by omega)
      obtain ⟨b', rfl, -, hl2, hc', -⟩ := (h'.below hb) (by omega)
      have h0 := hc (k * 2) _ (ints_at (by rw [HL.out]; omega))
      have g0 := hc' (k * 2) _ (ints_at (by rw [HL.out]; omega))
      have h1 := hc (k * 2 + 1) _ (ints_at (by rw [HL.out]; omega))
      have g1 := hc' (k * 2 + 1) _ (ints_at (by rw [HL.out]; omega))
      generalize xs.getD (k * 2) 0 = x0 at h0 g0
      generalize xs.getD (k * 2 + 1) 0 = x1 at h1 g1
      have hx0 : (x0 == x0) = true := by simp
      have hx1 : (x1 == x1) = true := by simp
      clear hc hc' h h'
      go_wp2_with fail
      go_quiet (fail)
      go_wp2_with fail
      go_roundw
      case rel => exact ⟨k + 1, by go_num, by omega, below_drewN hb _⟩
      case measure => simp [intOf]; omega
    · clear h h'
      go_wp2_with fail
      go_ret
      exact ⟨rfl, hb⟩
set_option maxRecDepth 100000 in
set_option maxHeartbeats 1000000 in
theorem hasInt_yes (A : Option Addr) (n cap B : Nat) (xs : List Int) (x : Int) (w : World) (hl : xs.length = n) (hn : n ≤ maxLen) (hx : x ∈ xs) (h : RowAt w B A n (ints xs)) :
    Calls Try.prog 47 #[.slice A n cap, (.int .i64 x)] w fun e w' => e = .returned (.bool true) ∧ w = w' := by
  obtain ⟨m, hm, hxm⟩ : ∃ m, m < xs.length ∧ xs.getD m 0 = x := by
    obtain ⟨m, hm, e⟩ := List.getElem_of_mem hx
    exact ⟨m, hm, by simp [List.getD, List.getElem?_eq_getElem hm, e]⟩
  have HX := Lib.hid hxm
  have HL := Lib.hid hl
  rw [hl] at hm
  unfold maxLen at hn
  clear hl hx hxm
  obtain ⟨b, rfl, -, hlt1, hc, -⟩ := h (by omega)
  clear h
  go_enter Try.func47, Try.ntmps47
  go_wp2_with fail
  go_loop [5] (fun i => ∃ k : Nat, i = (.int .i64 ((k : Int))) ∧ k ≤ m) (fun i => n - (intOf i).toNat)
  case atStart => exact ⟨0, rfl, Nat.zero_le _⟩
  case round =>
    obtain ⟨k, rfl, hk⟩ := hrel
    have hkn : k < n := by omega
    have h1 := hc k _ (ints_at (by rw [HL.out]; exact hkn))
    by_cases he : xs.getD k 0 = x
    · rw [he] at h1
      clear hc
      go_wp2_with fail
      go_ret
      exact ⟨rfl, rfl⟩
    · have hkm : k < m := by
        rcases Nat.lt_or_ge k m with h | h
        · exact h
        · obtain rfl : k = m := by omega
          exact absurd HX.out he
      have he2 : (xs.getD k 0 == x) = false := by simpa using he
      clear HX
      generalize xs.getD k 0 = y at *
      clear hc
      go_wp2_with fail
      go_round
      case rel => exact ⟨k + 1, by go_num, by omega⟩
      case measure => simp [intOf]; omega
theorem hasInt_ext (A : Option Addr) (n cap B : Nat) (xs : List Int) (x : Int) (w : World) (hl : xs.length = n) (hn : n ≤ maxLen) (hx : x ∈ xs) (h : RowAt w B A n (ints xs)) (s : Ext w.heap.size w) :
    Calls Try.prog 47 #[.slice A n cap, (.int .i64 x)] s.w fun e w' => e = .returned (.bool true) ∧ Below s.w.heap.size s.w w' :=
  (hasInt_yes A n cap B xs x s.w hl hn hx (h.below s.h)).mono fun _ _ ⟨he, hw⟩ => ⟨he, by rw [← hw]; exact Below.refl _ _⟩
def fofRes (p q : Int) : (Int × Int) × Int := if (entB p && entB q) = true then fracRes p q else ((0, 0), 2)
set_option maxRecDepth 100000 in
set_option maxHeartbeats 1000000 in
theorem FractionOf_any (p q : Int) (w : World) (q0 : 0 < q) (q1 : q ≤ 4000000000000000000) (p0 : -4000000000000000000 ≤ p) (p1 : p ≤ 4000000000000000000) :
    Calls Try.prog 44 #[(.int .i64 p), (.int .i64 q)] w fun e w' => e = .returned (.tuple #[(.agg #[.int .i64 ((fofRes p q).1.1), .int .i64 ((fofRes p q).1.2)]), (.int .i64 ((fofRes p q).2))]) ∧ Below w.heap.size w w' := by
  have HF := Lib.hid (fun W => fraction_any p q W q0 q1 p0 p1)
  cases he : (entB p && entB q)
  · have HE := Lib.hid he
    rw [show fofRes p q = ((0, 0), 2) by simp only [fofRes, he]; rfl]
    clear he HF
    go_enter Try.func44, Try.ntmps44
    go_wp2_with (go_at_call 88; refine (areEntries_any _ _ _ 2 (fun i => if i = 0 then p else q) _ (by omega) (by intro i hi; rcases (show i = 0 ∨ i = 1 by omega) with rfl | rfl <;> simp)).mono ?_; rw [allB2, HE.out]; rintro e w' ⟨rfl, rfl⟩)
    go_wp2_with fail
    refine bodyPost_ret (v := .tuple #[(.agg #[.int .i64 0, .int .i64 0]), (.int .i64 2)]) (by simp [results, Try.results44, go_sem] <;> rfl) rfl ⟨rfl, by go_grown⟩
  · have HE := Lib.hid he
    rw [show fofRes p q = fracRes p q by simp only [fofRes, he, if_true]]
    clear he
    have hq0 : (q == 0) = false := by simp; omega
    generalize (fracRes p q).1.1 = X at *
    generalize (fracRes p q).1.2 = Y at *
    generalize (fracRes p q).2 = E at *
    by_cases hp : p = 0
    · subst hp
      go_enter Try.func44, Try.ntmps44
      go_wp2_with (go_at_call 88; refine (areEntries_any _ _ _ 2 (fun i => if i = 0 then 0 else q) _ (by omega) (by intro i hi; rcases (show i = 0 ∨ i = 1 by omega) with rfl | rfl <;> simp)).mono ?_; rw [allB2, HE.out]; rintro e w' ⟨rfl, rfl⟩)
      refine (HF.out _).mono ?_; rintro e w1 ⟨rfl, hb1⟩
      have hr1 := heap_below (heap_alloc heap_new) hb1
      have HB1 := Lib.hid (show Below w.heap.size w w1 from bfin (by go_grown) hb1)
      obtain ⟨⟨c0, c1⟩, ⟨g0, g1⟩, hr⟩ := blk_two hr1
      clear hb1 HF HE
      go_wp2_with fail
      refine bodyPost_ret (v := .tuple #[(.agg #[.int .i64 X, .int .i64 Y]), (.int .i64 E)]) (by simp [results, Try.results44, go_sem, set2_0 hr1, set2_1 hr1] <;> rfl) rfl ⟨rfl, (HB1.out.setCell (p := ⟨w.heap.size, 0, none⟩) (Nat.le_refl _) _).setCell (p := ⟨w.heap.size, 1, none⟩) (Nat.le_refl _) _⟩
    · have hp0 : (p == 0) = false := by simpa using hp
      go_enter Try.func44, Try.ntmps44
      go_wp2_with (go_at_call 88; refine (areEntries_any _ _ _ 2 (fun i => if i = 0 then p else q) _ (by omega) (by intro i hi; rcases (show i = 0 ∨ i = 1 by omega) with rfl | rfl <;> simp)).mono ?_; rw [allB2, HE.out]; rintro e w' ⟨rfl, rfl⟩)
      refine (HF.out _).mono ?_; rintro e w1 ⟨rfl, hb1⟩
      have hr1 := heap_below (heap_alloc heap_new) hb1
      have HB1 := Lib.hid (show Below w.heap.size w w1 from bfin (by go_grown) hb1)
      obtain ⟨⟨c0, c1⟩, ⟨g0, g1⟩, hr⟩ := blk_two hr1
      clear hb1 HF HE
      go_wp2_with fail
      refine bodyPost_ret (v := .tuple #[(.agg #[.int .i64 X, .int .i64 Y]), (.int .i64 E)]) (by simp [results, Try.results44, go_sem, set2_0 hr1, set2_1 hr1] <;> rfl) rfl ⟨rfl, (HB1.out.setCell (p := ⟨w.heap.size, 0, none⟩) (Nat.le_refl _) _).setCell (p := ⟨w.heap.size, 1, none⟩) (Nat.le_refl _) _⟩
end Go.Proofs.Ytkhlgphmimddhaa
