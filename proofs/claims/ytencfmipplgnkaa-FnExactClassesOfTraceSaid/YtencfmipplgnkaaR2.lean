/- Contracts: the law's own helpers over rows of arrays (written by gen_rows.py). -/
import Derived.Test.YtencfmipplgnkaaR1
import Derived.Test.YtencfmipplgnkaaC3
import Derived.Test.YtencfmipplgnkaaC30
namespace Go.Proofs.Ytencfmipplgnkaa
open Go.RowKit
set_option maxRecDepth 100000 in
set_option maxHeartbeats 2000000 in
theorem markFractionS_any (v : Value) (n B : Nat) (E : TypeId) (xs : List Int) (m : Int) (w : World) (hl : xs.length = n * 2) (m0 : 0 ≤ m) (hm : m + n * 2 ≤ 4000000000000000000) (h : w.ownsRow B E 2 v n (ints xs)) :
    Calls Try.prog 21 #[v, (.int .i64 m)] w fun e w' => e = .returned (.int .i64 (m + n * 2)) ∧ w'.ownsRow B E 2 v n (allMarks m (n * 2)) ∧ w.grownBy w' v.ownBlock := by
  have hlen : (ints xs).length = n * 2 := by rw [ints_len]; exact hl
  have HL := Lib.hid hlen
  have HI := Lib.hid (@ints_int xs)
  rw [← marks_zero m (ints xs)] at h
  generalize ints xs = ys at *
  have HM := Lib.hid (show marks m ys (n * 2) = allMarks m (n * 2) by rw [← HL.out]; exact marks_all)
  clear hl hlen xs
  obtain ⟨A, cap, rfl, hcap, hmax, -⟩ := own_view h
  unfold maxLen at hmax
  have H := Lib.hid h
  clear h
  go_enter Try.func21, Try.ntmps21
  go_wp2_with fail
  go_loopw [1, 5] (fun q i wr => ∃ k : Nat, q = (.int .i64 (m + k * 2)) ∧ i = (.int .i64 ((k : Int))) ∧ k ≤ n ∧ Hid (wr.ownsRow B E 2 (.slice A n cap) n (marks m ys (k * 2)) ∧ w.grownBy wr (Value.slice A n cap).ownBlock)) (fun _ i _ => n - (intOf i).toNat)
  case atStart => exact ⟨0, by go_num, rfl, Nat.zero_le _, Lib.hid ⟨H.out, grown_refl' _ _⟩⟩
  case round =>
    obtain ⟨k, rfl, rfl, hk, HR⟩ := hrel
    by_cases hlt : k < n
    · obtain ⟨A', cap', e, -, -, hat⟩ := own_view HR.out.1
      obtain ⟨b, e2, -, hbl, hc, hf⟩ := hat (by omega)
      injection e with e3 e4 e5
      subst e3; subst e5; subst e2
      obtain ⟨x0, hx0⟩ := marks_cell (k := m) (xs := ys) (j := k * 2) (i := k * 2) HI.out (by rw [HL.out]; omega)
      have h0 := hc (k * 2) _ hx0
      have g0 := hf (k * 2)
      obtain ⟨x1, hx1⟩ := marks_cell (k := m) (xs := ys) (j := k * 2) (i := k * 2 + 1) HI.out (by rw [HL.out]; omega)
      have h1 := hc (k * 2 + 1) _ hx1
      have g1 := hf (k * 2 + 1)
      clear hc hf hat hx0 hx1
      go_wp2_with fail
      refine wp_loop_rounds 3 ?_
      iterate 3 (rw [rounds_succ]; go_wp2_with fail)
      go_roundw
      case rel =>
        refine ⟨k + 1, by push_cast; go_num, by go_num, by omega, Lib.hid ⟨?_, ?_⟩⟩
        · have t0 := HR.out.1
          have t1 := own_set (u := (.int .i64 (m + ((k * 2 : Nat) : Int)))) t0 (j := k * 2)
          rw [marks_set (by rw [HL.out]; omega)] at t1
          have t2 := own_set (u := (.int .i64 (m + ((k * 2 + 1 : Nat) : Int)))) t1 (j := k * 2 + 1)
          rw [marks_set (by rw [HL.out]; omega)] at t2
          rw [show (k + 1) * 2 = k * 2 + 2 by omega]
          simpa [Int.add_assoc] using t2
        · exact grown_trans' (grown_trans' (HR.out.2) grown_set) grown_set
      case measure => simp [intOf]; omega
    · obtain rfl : k = n := by omega
      go_wp2_with fail
      go_ret
      have := HR.out
      rw [HM.out] at this
      exact ⟨rfl, this⟩
set_option maxRecDepth 100000 in
set_option maxHeartbeats 2000000 in
theorem heldFractionS_any (A : Option Addr) (n cap B : Nat) (m : Int) (w : World) (hn : n ≤ maxLen) (m0 : 0 ≤ m) (hm : m + n * 2 ≤ 4000000000000000000) (h : RowAt w B A n (allMarks m (n * 2))) :
    Calls Try.prog 22 #[.slice A n cap, (.int .i64 m)] w fun e w' => e = .returned (.int .i64 (m + n * 2)) ∧ Below w.heap.size w w' := by
  unfold maxLen at hn
  go_enter Try.func22, Try.ntmps22
  go_wp2_with fail
  go_loopw [1, 5] (fun q i wr => ∃ k : Nat, q = (.int .i64 (m + k * 2)) ∧ i = (.int .i64 ((k : Int))) ∧ k ≤ n ∧ Below w.heap.size w wr) (fun _ i _ => n - (intOf i).toNat)
  case atStart => exact ⟨0, by go_num, rfl, Nat.zero_le _, Below.refl _ _⟩
  case round =>
    obtain ⟨k, rfl, rfl, hk, hb⟩ := hrel
    by_cases hlt : k < n
    · obtain ⟨b, rfl, -, -, hc, -⟩ := (h.below hb) (by omega)
      have h0 : wr.cell? ⟨b, k * 2, none⟩ = some (.int .i64 (m + (k : Int) * 2)) := by rw [hc (k * 2) _ (allMarks_at (by omega))]; congr 2 <;> (try push_cast) <;> (try omega)
      have h1 : wr.cell? ⟨b, k * 2 + 1, none⟩ = some (.int .i64 (m + (k : Int) * 2 + 1)) := by rw [hc (k * 2 + 1) _ (allMarks_at (by omega))]; congr 2 <;> (try push_cast) <;> (try omega)
      have n0 : (m + (k : Int) * 2 != m + (k : Int) * 2) = false := by simp
      have n1 : (m + (k : Int) * 2 + 1 != m + (k : Int) * 2 + 1) = false := by simp
      clear hc h
      go_wp2_with fail
      refine wp_loop_rounds 3 ?_
      iterate 3 (rw [rounds_succ]; go_wp2_with fail)
      go_roundw
      case rel => exact ⟨k + 1, by push_cast; go_num, by go_num, by omega, hb⟩
      case measure => simp [intOf]; omega
    · clear h
      obtain rfl : k = n := by omega
      go_wp2_with fail
      go_ret
      exact ⟨rfl, hb⟩
set_option maxRecDepth 100000 in
set_option maxHeartbeats 2000000 in
theorem eqFractionS_same (A A' : Option Addr) (n cap cap' B B' : Nat) (xs : List Int) (w : World) (hl : xs.length = n * 2) (hn : n ≤ maxLen) (h : RowAt w B A n (ints xs)) (h' : RowAt w B' A' n (ints xs)) :
    Calls Try.prog 20 #[.slice A n cap, .slice A' n cap'] w fun e w' => e = .returned (.bool true) ∧ Below w.heap.size w w' := by
  have HL := Lib.hid hl
  unfold maxLen at hn
  clear hl
  go_enter Try.func20, Try.ntmps20
  go_wp2_with fail
  go_loopw [5] (fun i wr => ∃ k : Nat, i = (.int .i64 ((k : Int))) ∧ k ≤ n ∧ Below w.heap.size w wr) (fun i _ => n - (intOf i).toNat)
  case atStart => exact ⟨0, rfl, Nat.zero_le _, Below.refl _ _⟩
  case round =>
    obtain ⟨k, rfl, hk, hb⟩ := hrel
    by_cases hlt : k < n
    · obtain ⟨b, rfl, -, hl1, hc, -⟩ := (h.below hb) (by omega)
      obtain ⟨b', rfl, -, hl2, hc', -⟩ := (h'.below hb) (by omega)
      have h0 := hc (k * 2) _ (ints_at (by rw [HL.out]; omega))
      have g0 := hc' (k * 2) _ (ints_at (by rw [HL.out]; omega))
      have h1 := hc (k * 2 + 1) _ (ints_at (by rw [HL.out]; omega))
      have g1 := hc' (k * 2 + 1) _ (ints_at (by rw [HL.out]; omega))
      generalize xs.getD (k * 2) 0 = x0 at h0 g0
      generalize xs.getD (k * 2 + 1) 0 = x1 at h1 g1
      clear hc hc' h h'
      go_wp2_with fail
      refine wp_region_ext (by kernel_rfl) (by kernel_rfl) ?_
      repeat (go_big_quiet_step (first | ((go_at_call 53; refine Calls.ext_of (Nat.le_refl _) (eqFraction_same _ _ _)))))
      refine wpQuiet_nil ?_
      intro w1 hb1
      obtain ⟨hc1, hf1⟩ := bcell hb1
      go_wp2_with fail
      go_roundw
      case rel => exact ⟨k + 1, by go_num, by omega, hb.trans (hb1.mono hb.size)⟩
      case measure => simp [intOf]; omega
    · clear h h'
      go_wp2_with fail
      go_ret
      exact ⟨rfl, hb⟩
set_option maxRecDepth 100000 in
set_option maxHeartbeats 2000000 in
theorem markMatrixS_any (v : Value) (n B : Nat) (E : TypeId) (xs : List Int) (m : Int) (w : World) (hl : xs.length = n * 4) (m0 : 0 ≤ m) (hm : m + n * 4 ≤ 4000000000000000000) (h : w.ownsRow B E 4 v n (ints xs)) :
    Calls Try.prog 36 #[v, (.int .i64 m)] w fun e w' => e = .returned (.int .i64 (m + n * 4)) ∧ w'.ownsRow B E 4 v n (allMarks m (n * 4)) ∧ w.grownBy w' v.ownBlock := by
  have hlen : (ints xs).length = n * 4 := by rw [ints_len]; exact hl
  have HL := Lib.hid hlen
  have HI := Lib.hid (@ints_int xs)
  rw [← marks_zero m (ints xs)] at h
  generalize ints xs = ys at *
  have HM := Lib.hid (show marks m ys (n * 4) = allMarks m (n * 4) by rw [← HL.out]; exact marks_all)
  clear hl hlen xs
  obtain ⟨A, cap, rfl, hcap, hmax, -⟩ := own_view h
  unfold maxLen at hmax
  have H := Lib.hid h
  clear h
  go_enter Try.func36, Try.ntmps36
  go_wp2_with fail
  go_loopw [1, 5] (fun q i wr => ∃ k : Nat, q = (.int .i64 (m + k * 4)) ∧ i = (.int .i64 ((k : Int))) ∧ k ≤ n ∧ Hid (wr.ownsRow B E 4 (.slice A n cap) n (marks m ys (k * 4)) ∧ w.grownBy wr (Value.slice A n cap).ownBlock)) (fun _ i _ => n - (intOf i).toNat)
  case atStart => exact ⟨0, by go_num, rfl, Nat.zero_le _, Lib.hid ⟨H.out, grown_refl' _ _⟩⟩
  case round =>
    obtain ⟨k, rfl, rfl, hk, HR⟩ := hrel
    by_cases hlt : k < n
    · obtain ⟨A', cap', e, -, -, hat⟩ := own_view HR.out.1
      obtain ⟨b, e2, -, hbl, hc, hf⟩ := hat (by omega)
      injection e with e3 e4 e5
      subst e3; subst e5; subst e2
      obtain ⟨x0, hx0⟩ := marks_cell (k := m) (xs := ys) (j := k * 4) (i := k * 4) HI.out (by rw [HL.out]; omega)
      have h0 := hc (k * 4) _ hx0
      have g0 := hf (k * 4)
      obtain ⟨x1, hx1⟩ := marks_cell (k := m) (xs := ys) (j := k * 4) (i := k * 4 + 1) HI.out (by rw [HL.out]; omega)
      have h1 := hc (k * 4 + 1) _ hx1
      have g1 := hf (k * 4 + 1)
      obtain ⟨x2, hx2⟩ := marks_cell (k := m) (xs := ys) (j := k * 4) (i := k * 4 + 2) HI.out (by rw [HL.out]; omega)
      have h2 := hc (k * 4 + 2) _ hx2
      have g2 := hf (k * 4 + 2)
      obtain ⟨x3, hx3⟩ := marks_cell (k := m) (xs := ys) (j := k * 4) (i := k * 4 + 3) HI.out (by rw [HL.out]; omega)
      have h3 := hc (k * 4 + 3) _ hx3
      have g3 := hf (k * 4 + 3)
      clear hc hf hat hx0 hx1 hx2 hx3
      go_wp2_with fail
      refine wp_loop_rounds 5 ?_
      iterate 5 (rw [rounds_succ]; go_wp2_with fail)
      go_roundw
      case rel =>
        refine ⟨k + 1, by push_cast; go_num, by go_num, by omega, Lib.hid ⟨?_, ?_⟩⟩
        · have t0 := HR.out.1
          have t1 := own_set (u := (.int .i64 (m + ((k * 4 : Nat) : Int)))) t0 (j := k * 4)
          rw [marks_set (by rw [HL.out]; omega)] at t1
          have t2 := own_set (u := (.int .i64 (m + ((k * 4 + 1 : Nat) : Int)))) t1 (j := k * 4 + 1)
          rw [marks_set (by rw [HL.out]; omega)] at t2
          have t3 := own_set (u := (.int .i64 (m + ((k * 4 + 2 : Nat) : Int)))) t2 (j := k * 4 + 2)
          rw [marks_set (by rw [HL.out]; omega)] at t3
          have t4 := own_set (u := (.int .i64 (m + ((k * 4 + 3 : Nat) : Int)))) t3 (j := k * 4 + 3)
          rw [marks_set (by rw [HL.out]; omega)] at t4
          rw [show (k + 1) * 4 = k * 4 + 4 by omega]
          simpa [Int.add_assoc] using t4
        · exact grown_trans' (grown_trans' (grown_trans' (grown_trans' (HR.out.2) grown_set) grown_set) grown_set) grown_set
      case measure => simp [intOf]; omega
    · obtain rfl : k = n := by omega
      go_wp2_with fail
      go_ret
      have := HR.out
      rw [HM.out] at this
      exact ⟨rfl, this⟩
set_option maxRecDepth 100000 in
set_option maxHeartbeats 2000000 in
theorem heldMatrixS_any (A : Option Addr) (n cap B : Nat) (m : Int) (w : World) (hn : n ≤ maxLen) (m0 : 0 ≤ m) (hm : m + n * 4 ≤ 4000000000000000000) (h : RowAt w B A n (allMarks m (n * 4))) :
    Calls Try.prog 37 #[.slice A n cap, (.int .i64 m)] w fun e w' => e = .returned (.int .i64 (m + n * 4)) ∧ Below w.heap.size w w' := by
  unfold maxLen at hn
  go_enter Try.func37, Try.ntmps37
  go_wp2_with fail
  go_loopw [1, 5] (fun q i wr => ∃ k : Nat, q = (.int .i64 (m + k * 4)) ∧ i = (.int .i64 ((k : Int))) ∧ k ≤ n ∧ Below w.heap.size w wr) (fun _ i _ => n - (intOf i).toNat)
  case atStart => exact ⟨0, by go_num, rfl, Nat.zero_le _, Below.refl _ _⟩
  case round =>
    obtain ⟨k, rfl, rfl, hk, hb⟩ := hrel
    by_cases hlt : k < n
    · obtain ⟨b, rfl, -, -, hc, -⟩ := (h.below hb) (by omega)
      have h0 : wr.cell? ⟨b, k * 4, none⟩ = some (.int .i64 (m + (k : Int) * 4)) := by rw [hc (k * 4) _ (allMarks_at (by omega))]; congr 2 <;> (try push_cast) <;> (try omega)
      have h1 : wr.cell? ⟨b, k * 4 + 1, none⟩ = some (.int .i64 (m + (k : Int) * 4 + 1)) := by rw [hc (k * 4 + 1) _ (allMarks_at (by omega))]; congr 2 <;> (try push_cast) <;> (try omega)
      have h2 : wr.cell? ⟨b, k * 4 + 2, none⟩ = some (.int .i64 (m + (k : Int) * 4 + 2)) := by rw [hc (k * 4 + 2) _ (allMarks_at (by omega))]; congr 2 <;> (try push_cast) <;> (try omega)
      have h3 : wr.cell? ⟨b, k * 4 + 3, none⟩ = some (.int .i64 (m + (k : Int) * 4 + 3)) := by rw [hc (k * 4 + 3) _ (allMarks_at (by omega))]; congr 2 <;> (try push_cast) <;> (try omega)
      have n0 : (m + (k : Int) * 4 != m + (k : Int) * 4) = false := by simp
      have n1 : (m + (k : Int) * 4 + 1 != m + (k : Int) * 4 + 1) = false := by simp
      have n2 : (m + (k : Int) * 4 + 2 != m + (k : Int) * 4 + 2) = false := by simp
      have n3 : (m + (k : Int) * 4 + 3 != m + (k : Int) * 4 + 3) = false := by simp
      clear hc h
      go_wp2_with fail
      refine wp_loop_rounds 5 ?_
      iterate 5 (rw [rounds_succ]; go_wp2_with fail)
      go_roundw
      case rel => exact ⟨k + 1, by push_cast; go_num, by go_num, by omega, hb⟩
      case measure => simp [intOf]; omega
    · clear h
      obtain rfl : k = n := by omega
      go_wp2_with fail
      go_ret
      exact ⟨rfl, hb⟩
set_option maxRecDepth 100000 in
set_option maxHeartbeats 2000000 in
theorem eqMatrixS_same (A A' : Option Addr) (n cap cap' B B' : Nat) (xs : List Int) (w : World) (hl : xs.length = n * 4) (hn : n ≤ maxLen) (h : RowAt w B A n (ints xs)) (h' : RowAt w B' A' n (ints xs)) :
    Calls Try.prog 35 #[.slice A n cap, .slice A' n cap'] w fun e w' => e = .returned (.bool true) ∧ Below w.heap.size w w' := by
  have HL := Lib.hid hl
  unfold maxLen at hn
  clear hl
  go_enter Try.func35, Try.ntmps35
  go_wp2_with fail
  go_loopw [5] (fun i wr => ∃ k : Nat, i = (.int .i64 ((k : Int))) ∧ k ≤ n ∧ Below w.heap.size w wr) (fun i _ => n - (intOf i).toNat)
  case atStart => exact ⟨0, rfl, Nat.zero_le _, Below.refl _ _⟩
  case round =>
    obtain ⟨k, rfl, hk, hb⟩ := hrel
    by_cases hlt : k < n
    · obtain ⟨b, rfl, -, hl1, hc, -⟩ := (h.below hb) (by omega)
      obtain ⟨b', rfl, -, hl2, hc', -⟩ := (h'.below hb) (by omega)
      have h0 := hc (k * 4) _ (ints_at (by rw [HL.out]; omega))
      have g0 := hc' (k * 4) _ (ints_at (by rw [HL.out]; omega))
      have h1 := hc (k * 4 + 1) _ (ints_at (by rw [HL.out]; omega))
      have g1 := hc' (k * 4 + 1) _ (ints_at (by rw [HL.out]; omega))
      have h2 := hc (k * 4 + 2) _ (ints_at (by rw [HL.out]; omega))
      have g2 := hc' (k * 4 + 2) _ (ints_at (by rw [HL.out]; omega))
      have h3 := hc (k * 4 + 3) _ (ints_at (by rw [HL.out]; omega))
      have g3 := hc' (k * 4 + 3) _ (ints_at (by rw [HL.out]; omega))
      generalize xs.getD (k * 4) 0 = x0 at h0 g0
      generalize xs.getD (k * 4 + 1) 0 = x1 at h1 g1
      generalize xs.getD (k * 4 + 2) 0 = x2 at h2 g2
      generalize xs.getD (k * 4 + 3) 0 = x3 at h3 g3
      clear hc hc' h h'
      go_wp2_with fail
      refine wp_region_ext (by kernel_rfl) (by kernel_rfl) ?_
      repeat (go_big_quiet_step (first | ((go_at_call 30; refine Calls.ext_of (Nat.le_refl _) (eqMatrix_same _ _ _ _ _)))))
      refine wpQuiet_nil ?_
      intro w1 hb1
      obtain ⟨hc1, hf1⟩ := bcell hb1
      go_wp2_with fail
      go_roundw
      case rel => exact ⟨k + 1, by go_num, by omega, hb.trans (hb1.mono hb.size)⟩
      case measure => simp [intOf]; omega
    · clear h h'
      go_wp2_with fail
      go_ret
      exact ⟨rfl, hb⟩
end Go.Proofs.Ytencfmipplgnkaa
