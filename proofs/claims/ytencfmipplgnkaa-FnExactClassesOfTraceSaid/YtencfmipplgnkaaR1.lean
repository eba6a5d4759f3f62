/- Contracts: the law's own helpers over rows of integers. -/
import Derived.Test.YtencfmipplgnkaaRows
import Derived.Test.YtencfmipplgnkaaRow
namespace Go.Proofs.Ytencfmipplgnkaa
open Go.RowKit
set_option maxHeartbeats 1000000 in
theorem eqInt64S_same (A A' : Option Addr) (n cap cap' B B' : Nat) (xs : List Int) (w : World) (hl : xs.length = n) (hn : n ≤ maxLen) (h : RowAt w B A n (ints xs)) (h' : RowAt w B' A' n (ints xs)) :
    Calls Try.prog 15 #[.slice A n cap, .slice A' n cap'] w fun e w' => e = .returned (.bool true) ∧ Below w.heap.size w w' := by
  have HL := Lib.hid hl
  unfold maxLen at hn
  clear hl
  go_enter Try.func15, Try.ntmps15
  go_wp2_with fail
  go_loopw [5] (fun i wr => ∃ k : Nat, i = (.int .i64 ((k : Int))) ∧ k ≤ n ∧ Below w.heap.size w wr) (fun i _ => n - (intOf i).toNat)
  case atStart => exact ⟨0, rfl, Nat.zero_le _, Below.refl _ _⟩
  case round =>
    obtain ⟨k, rfl, hk, hb⟩ := hrel
    by_cases hlt : k < n
    · obtain ⟨b, rfl, -, -, hc, -⟩ := (h.below hb) (by omega)
      obtain ⟨b', rfl, -, -, hc', -⟩ := (h'.below hb) (by omega)
      have h1 := hc k _ (ints_at (by rw [HL.out]; exact hlt))
      have h2 := hc' k _ (ints_at (by rw [HL.out]; exact hlt))
      generalize xs.getD k 0 = x at h1 h2
      have hne : (x != x) = false := by simp
      clear hc hc' h h'
      go_wp2_with fail
      go_quiet (fail)
      go_wp2_with fail
      go_roundw
      case rel => exact ⟨k + 1, by go_num, by omega, below_drewN hb _⟩
      case measure => simp [intOf]; omega
    · clear h h'
      go_wp2_with fail
      go_ret
      exact ⟨rfl, hb⟩
set_option maxHeartbeats 1000000 in
theorem markInt64S_any (v : Value) (n B : Nat) (E : TypeId) (xs : List Int) (m : Int) (w : World) (hl : xs.length = n) (m0 : 0 ≤ m) (hm : m + n ≤ 4000000000000000000) (h : w.ownsRow B E 1 v n (ints xs)) :
    Calls Try.prog 16 #[v, (.int .i64 m)] w fun e w' => e = .returned (.int .i64 (m + n)) ∧ w'.ownsRow B E 1 v n (allMarks m n) ∧ w.grownBy w' v.ownBlock := by
  have hlen : (ints xs).length = n := by rw [ints_len]; exact hl
  have HL := Lib.hid hlen
  have HI := Lib.hid (@ints_int xs)
  rw [← marks_zero m (ints xs)] at h
  generalize ints xs = ys at *
  have HM := Lib.hid (show marks m ys n = allMarks m n by rw [← HL.out]; exact marks_all)
  clear hl hlen xs
  obtain ⟨A, cap, rfl, hcap, hmax, -⟩ := own_view h
  unfold maxLen at hmax
  have H := Lib.hid h
  clear h
  go_enter Try.func16, Try.ntmps16
  go_wp2_with fail
  go_loopw [1, 5] (fun q i wr => ∃ k : Nat, q = (.int .i64 (m + k)) ∧ i = (.int .i64 ((k : Int))) ∧ k ≤ n ∧ Hid (wr.ownsRow B E 1 (.slice A n cap) n (marks m ys k) ∧ w.grownBy wr (Value.slice A n cap).ownBlock)) (fun _ i _ => n - (intOf i).toNat)
  case atStart => exact ⟨0, by go_num, rfl, Nat.zero_le _, Lib.hid ⟨H.out, grown_refl' _ _⟩⟩
  case round =>
    obtain ⟨k, rfl, rfl, hk, HR⟩ := hrel
    by_cases hlt : k < n
    · obtain ⟨A', cap', e, -, -, hat⟩ := own_view HR.out.1
      obtain ⟨b, e2, -, hbl, hc, hf⟩ := hat (by omega)
      injection e with e3 e4 e5
      subst e3; subst e5; subst e2
      obtain ⟨x, hx⟩ := marks_cell (k := m) (xs := ys) (j := k) (i := k) HI.out (by rw [HL.out]; exact hlt)
      have h1 := hc k _ hx
      have h2 := hf k
      clear hc hf hat hx
      go_wp2_with fail
      go_roundw
      case rel =>
        refine ⟨k + 1, by go_num, by go_num, by omega, Lib.hid ⟨?_, ?_⟩⟩
        · have := own_set (u := (.int .i64 (m + k))) HR.out.1 (j := k)
          rwa [marks_set (by rw [HL.out]; exact hlt)] at this
        · exact grown_trans' HR.out.2 grown_set
      case measure => simp [intOf]; omega
    · obtain rfl : k = n := by omega
      go_wp2_with fail
      go_ret
      have := HR.out
      rw [HM.out] at this
      exact ⟨rfl, this⟩
set_option maxHeartbeats 1000000 in
theorem heldInt64S_any (A : Option Addr) (n cap B : Nat) (m : Int) (w : World) (hn : n ≤ maxLen) (m0 : 0 ≤ m) (hm : m + n ≤ 4000000000000000000) (h : RowAt w B A n (allMarks m n)) :
    Calls Try.prog 17 #[.slice A n cap, (.int .i64 m)] w fun e w' => e = .returned (.int .i64 (m + n)) ∧ Below w.heap.size w w' := by
  unfold maxLen at hn
  go_enter Try.func17, Try.ntmps17
  go_wp2_with fail
  go_loopw [1, 5] (fun q i wr => ∃ k : Nat, q = (.int .i64 (m + k)) ∧ i = (.int .i64 ((k : Int))) ∧ k ≤ n ∧ Below w.heap.size w wr) (fun _ i _ => n - (intOf i).toNat)
  case atStart => exact ⟨0, by go_num, rfl, Nat.zero_le _, Below.refl _ _⟩
  case round =>
    obtain ⟨k, rfl, rfl, hk, hb⟩ := hrel
    by_cases hlt : k < n
    · obtain ⟨b, rfl, -, -, hc, -⟩ := (h.below hb) (by omega)
      have h1 := hc k _ (allMarks_at hlt)
      have hne : (m + (k : Int) != m + (k : Int)) = false := by simp
      clear hc h
      go_wp2_with fail
      go_roundw
      case rel => exact ⟨k + 1, by go_num, by go_num, by omega, hb⟩
      case measure => simp [intOf]; omega
    · clear h
      obtain rfl : k = n := by omega
      go_wp2_with fail
      go_ret
      exact ⟨rfl, hb⟩
end Go.Proofs.Ytencfmipplgnkaa
