/- Contracts: the model's values of a form; the law ValuesOf. -/
import Derived.Test.YtcaiofhdcffogaaGreatC110
import Derived.Test.YtcaiofhdcffogaaGreatNa
namespace Go.Proofs.YtcaiofhdcffogaaGreat
open Go.RowKit
/-- A cell of a row of numbers. -/
theorem rowcell2 {w : World} {B b n cap r : Nat} {E : TypeId} {R : List Int} (h : w.ownsRow B E 1 (.slice (some ⟨b, 0, none⟩) n cap) n (ints R)) (hr : r < n) (hR : R.length = n) : w.cell? ⟨b, r, none⟩ = some (.int .i64 (R.getD r 0)) ∧ w.frozen? ⟨b, r, none⟩ = false := by
  obtain ⟨b', hb', -, -, hc, hf⟩ := (own_at h) (by omega)
  injection hb' with hb'
  injection hb' with hb'
  subst hb'
  exact ⟨hc r _ (ints_at (by omega)), hf r⟩
set_option maxRecDepth 100000 in
set_option maxHeartbeats 4000000 in
theorem sValuesOf_any (a b c n : Int) (w : World) :
    Calls Tryz.prog 21 #[(.agg #[.int .i64 a, .int .i64 b, .int .i64 c]), (.int .i64 n)] w fun e w' => ∃ v, e = .returned (.tuple #[v, (.int .i64 ((valsRes a b c n).c))]) ∧ w'.ownsRow w.heap.size 2 1 v (valsRes a b c n).xs.length (ints (valsRes a b c n).xs) ∧ Below w.heap.size w w' := by
  have HF := Lib.hid (fun W => l05Is_any a b c W)
  have H1 := Lib.hid (fun W => l01In_any n 0 10 W)
  cases hf : isForm a b c
  · rw [show valsRes a b c n = ⟨[], 1⟩ by simp [valsRes, hf]]
    rw [hf] at HF
    go_enter Tryz.func21, Tryz.ntmps21
    go_wp2_with fail
    refine (HF.out _).mono ?_; rintro e w1 ⟨rfl, hb1⟩
    obtain ⟨hc1, hf1⟩ := bcell hb1
    have hB1 : Below w.heap.size w w1 := bfin (by go_grown) hb1
    go_wp2_with fail
    go_ret2
    exact ⟨_, rfl, World.ownsRow_nil _ _ _ _, by go_grown⟩
  rw [hf] at HF
  cases hn : inB n 0 10
  · rw [show valsRes a b c n = ⟨[], 2⟩ by simp [valsRes, hf, hn]]
    rw [hn] at H1
    go_enter Tryz.func21, Tryz.ntmps21
    go_wp2_with fail
    refine (HF.out _).mono ?_; rintro e w1 ⟨rfl, hb1⟩
    obtain ⟨hc1, hf1⟩ := bcell hb1
    go_wp2_with fail
    refine (H1.out _).mono ?_; rintro e w' ⟨rfl, rfl⟩
    have hB1 : Below w.heap.size w w1 := bfin (by go_grown) hb1
    go_wp2_with fail
    go_ret2
    exact ⟨_, rfl, World.ownsRow_nil _ _ _ _, by go_grown⟩
  rw [hn] at H1
  rw [show valsRes a b c n = ⟨sall (formAt a b c) n (2 * n.toNat + 1) (n.toNat + 1), 0⟩ by simp [valsRes, hf, hn]]
  obtain ⟨n0, n1⟩ := inB_iff.1 hn
  have hsm := Lib.hid (small_of hf)
  clear hf hn
  obtain ⟨N, rfl⟩ := Int.eq_ofNat_of_zero_le n0
  rw [Int.toNat_natCast]
  have HAt := Lib.hid (fun x y W x0 x1 y0 y1 => l05Value_any a b c x y W hsm.out x0 x1 y0 y1)
  generalize formAt a b c = f at *
  have hM : ((2 * N + 1 : Nat) : Int) = 2 * N + 1 := by omega
  generalize 2 * N + 1 = M at *
  go_enter Tryz.func21, Tryz.ntmps21
  go_wp2_with fail
  refine (HF.out _).mono ?_; rintro e w1 ⟨rfl, hb1⟩
  obtain ⟨hc1, hf1⟩ := bcell hb1
  go_wp2_with fail
  refine (H1.out _).mono ?_; rintro e w' ⟨rfl, rfl⟩
  have hz0 : w.heap.size < w1.heap.size := by have := hb1.size; (try simp at this); omega
  go_wp2_with fail
  have hB1 : Below w.heap.size w w1 := bfin (by go_grown) hb1
  have s0 : w1.cell? ⟨w.heap.size, 0, none⟩ = some (.int .i64 a) := by rw [hc1 _ _ (by simp)]; go_simp
  have s1 : w1.cell? ⟨w.heap.size, 1, none⟩ = some (.int .i64 b) := by rw [hc1 _ _ (by simp)]; go_simp
  have s2 : w1.cell? ⟨w.heap.size, 2, none⟩ = some (.int .i64 c) := by rw [hc1 _ _ (by simp)]; go_simp
  clear hc1 hf1 hb1
  have hVl := Lib.hid (fun k => sall_len f N M k)
  have hRl := Lib.hid (fun x S k => srow_len f N x S k)
  have hVs := Lib.hid (fun k => (sall_ok f N M k).1)
  have hRs := Lib.hid (fun x (S : List Int) (h : S.Pairwise (· < ·)) k => (srow_ok f N x h k).1)
  have hKM := Lib.hid (fun k (h : k ≤ N) => show k * M ≤ 441 from Nat.mul_le_mul (show k ≤ 21 by omega) (show M ≤ 21 by omega))
  go_loopw [6, 7] (fun v i wr => ∃ k : Nat, i = (.int .i64 ((k : Int))) ∧ k ≤ N + 1 ∧ Hid (wr.ownsRow w1.heap.size 2 1 v (sall f N M k).length (ints (sall f N M k))) ∧ Below w1.heap.size w1 wr) (fun _ i _ => N + 1 - (intOf i).toNat)
  case atStart => exact ⟨0, rfl, Nat.zero_le _, Lib.hid (World.ownsRow_lit w1 #[] 0 (Nat.le_refl _) (by simp [maxLen]) rfl), by go_grown⟩
  case round =>
    obtain ⟨k, rfl, hk, HO, hb⟩ := hrel
    by_cases hlt : k ≤ N
    · go_wp2_with fail
      go_loopw [6, 8] (fun v i wr => ∃ (j : Nat) (y : Int), i = (.int .i64 y) ∧ Hid (y = -(N : Int) + j) ∧ j ≤ M ∧ Hid (wr.ownsRow w1.heap.size 2 1 v (srow f N k (sall f N M k) j).length (ints (srow f N k (sall f N M k) j))) ∧ Below w1.heap.size w1 wr) (fun _ i _ => M - (intOf i + N).toNat)
      case atStart => exact ⟨0, -(N : Int), rfl, Lib.hid (by omega), Nat.zero_le _, HO, hb⟩
      case round =>
        obtain ⟨j, y, rfl, hy, hj, HO, hb⟩ := hrel
        have hy1 : -(N : Int) + j ≤ y := by rw [hy.out]; omega
        have hy2 : y ≤ -(N : Int) + j := by rw [hy.out]; omega
        have hsz := hb.size
        have t0 := (hb.cell (p := ⟨w.heap.size, 0, none⟩) hz0).trans s0
        have t1 := (hb.cell (p := ⟨w.heap.size, 1, none⟩) hz0).trans s1
        have t2 := (hb.cell (p := ⟨w.heap.size, 2, none⟩) hz0).trans s2
        by_cases hlt2 : j < M
        · have hle2 : y ≤ N := by omega
          have hlen : (srow f N k (sall f N M k) j).length ≤ 1000 := by
            have h1 := hKM.out k hlt
            have h2 := hVl.out k
            have h3 := hRl.out k (sall f N M k) j
            omega
          have HSs := Lib.hid (hRs.out k _ (hVs.out k) j)
          have HR := Lib.hid (show srow f N k (sall f N M k) (j + 1) = insS (srow f N k (sall f N M k) j) (f k y) by rw [hy.out]; rfl)
          generalize srow f N k (sall f N M k) j = S at *
          go_wp2_with fail
          with_reducible refine (HAt.out (k : Int) y _ (by omega) (by omega) (by omega) (by omega)).mono ?_; rintro e w4 ⟨rfl, hb4⟩
          have HO4 := Lib.hid (own_below HO.out hb4)
          have hB4 := hb.trans (hb4.mono hsz)
          have hs4 := hB4.size
          clear hb4
          generalize f (k : Int) y = v at *
          obtain ⟨A, cap, rfl, -, -, hat⟩ := own_view HO4.out
          have HA := Lib.hid hat
          clear hat
          go_wp2_with fail
          go_loopw [10] (fun i wr => ∃ p : Nat, i = (.int .i64 ((p : Int))) ∧ p ≤ S.length ∧ Hid (∀ i, p ≤ i → i < S.length → v < S.getD i 0) ∧ wr = w4) (fun i _ => (intOf i).toNat)
          case atStart => exact ⟨S.length, rfl, Nat.le_refl _, Lib.hid (fun i h1 h2 => by omega), rfl⟩
          case round =>
            obtain ⟨p, rfl, hp, HP, rfl⟩ := hrel
            have hsplit : p = 0 ∨ (∃ q, p = q + 1 ∧ S.getD q 0 < v) ∨ (∃ q, p = q + 1 ∧ S.getD q 0 = v) ∨ (∃ q, p = q + 1 ∧ v < S.getD q 0) := by
              rcases (show p = 0 ∨ ∃ q, p = q + 1 from by cases p; exact .inl rfl; exact .inr ⟨_, rfl⟩) with h | ⟨q, h⟩
              · exact .inl h
              · rcases Int.lt_trichotomy (S.getD q 0) v with h' | h' | h'
                · exact .inr (.inl ⟨q, h, h'⟩)
                · exact .inr (.inr (.inl ⟨q, h, h'⟩))
                · exact .inr (.inr (.inr ⟨q, h, h'⟩))
            rcases hsplit with rfl | ⟨q, rfl, hx⟩ | ⟨q, rfl, hx⟩ | ⟨q, rfl, hx⟩
            · have HX := Lib.hid (show ∀ q, 0 = q + 1 → S.getD q 0 < v from fun q e => by omega)
              have HI := Lib.hid (ins_at HSs.out hp HP.out HX.out)
              go_wp2_with (at_builtin; refine app_one elV rfl _ _ rfl rfl rfl (by simp) (HO4.out) (hB4) rfl (by intro u hu; simp at hu; first | (subst hu; rfl) | (rcases hu with rfl | rfl <;> rfl) | (rcases hu with rfl | rfl | rfl <;> rfl) | (rcases hu with rfl | rfl | rfl | rfl <;> rfl)) (hs4) (by omega) ?_; intro v' w6 hown6 hb6 hg6; have HO6 := Lib.hid hown6; clear hown6 hg6; obtain ⟨A6, cap6, rfl, hcap6, hmax6, hat6⟩ := own_view HO6.out ; obtain ⟨b6, rfl, hB6, -, -, -⟩ := hat6 (by omega) ; clear hat6)
              unfold maxLen at hmax6
              have HT6 := Lib.hid (show w6.ownsRow w1.heap.size 2 1 (.slice (some ⟨b6, 0, none⟩) (S.length + 1) cap6) (S.length + 1) (ints (shT S v S.length)) by rw [shT_top]; simpa [ints] using HO6.out)
              go_wp2_with fail
              go_loopw [11] (fun i wr => ∃ m : Nat, i = (.int .i64 ((m : Int))) ∧ 0 ≤ m ∧ m ≤ S.length ∧ Hid (wr.ownsRow w1.heap.size 2 1 (.slice (some ⟨b6, 0, none⟩) (S.length + 1) cap6) (S.length + 1) (ints (shT S v m))) ∧ Below w1.heap.size w1 wr) (fun i _ => (intOf i).toNat)
              case atStart => exact ⟨S.length, by go_num, hp, Nat.le_refl _, HT6, hb6⟩
              case round =>
                obtain ⟨m, rfl, hm1, hm2, HT, hb⟩ := hrel
                have hTl := shT_len (v := v) hm2
                by_cases hgt : 0 < m
                · obtain ⟨r, rfl⟩ : ∃ r, m = r + 1 := ⟨m - 1, by omega⟩
                  obtain ⟨g1, f1⟩ := rowcell2 (r := r) HT.out (by omega) hTl
                  obtain ⟨g2, f2⟩ := rowcell2 (r := r + 1) HT.out (by omega) hTl
                  rw [shT_get hm2 (by omega) (by omega)] at g1
                  have HS2 := Lib.hid (shT_step (v := v) hm2)
                  generalize (shT S v (r + 1)).getD (r + 1) 0 = z at *
                  generalize S.getD r 0 = x at *
                  have HT2 := Lib.hid (own_set (j := r + 1) (u := (.int .i64 x)) HT.out)
                  go_wp2_with fail
                  go_roundw
                  case rel => exact ⟨r, by go_num, by omega, by omega, Lib.hid (by rw [← HS2.out, ← ints_setV]; exact HT2.out), Below.setCell hb (p := ⟨b6, r + 1, none⟩) hB6 _⟩
                  case measure => simp [intOf] <;> omega
                · obtain rfl : m = 0 := by omega
                  obtain ⟨g1, f1⟩ := rowcell2 (r := 0) HT.out (by omega) hTl
                  generalize (shT S v 0).getD 0 0 = z at *
                  have HT2 := Lib.hid (own_set (j := 0) (u := (.int .i64 v)) HT.out)
                  rw [ints_setV, ← HI.out] at HT2
                  have HLn := Lib.hid (show (insS S v).length = S.length + 1 by rw [HI.out, List.length_set, hTl])
                  go_wp2_with fail
                  go_roundw
                  case rel => exact ⟨j + 1, y + 1, by go_num, Lib.hid (by omega), by omega, Lib.hid (by rw [HR.out, HLn.out]; exact HT2.out), Below.setCell hb (p := ⟨b6, 0, none⟩) hB6 _⟩
                  case measure => simp [intOf] <;> omega
            · obtain ⟨b0, rfl, -, -, hcc, -⟩ := HA.out (by omega)
              have g0 := hcc q _ (ints_at (by omega))
              have HX := Lib.hid (show ∀ q', q + 1 = q' + 1 → S.getD q' 0 < v from fun q' e => (show q = q' by omega) ▸ hx)
              clear hcc
              generalize S.getD q 0 = x at g0 hx
              have hE1 : (x == v) = false := by simp; omega
              have HI := Lib.hid (ins_at HSs.out hp HP.out HX.out)
              go_wp2_with (at_builtin; refine app_one elV rfl _ _ rfl rfl rfl (by simp) (HO4.out) (hB4) rfl (by intro u hu; simp at hu; first | (subst hu; rfl) | (rcases hu with rfl | rfl <;> rfl) | (rcases hu with rfl | rfl | rfl <;> rfl) | (rcases hu with rfl | rfl | rfl | rfl <;> rfl)) (hs4) (by omega) ?_; intro v' w6 hown6 hb6 hg6; have HO6 := Lib.hid hown6; clear hown6 hg6; obtain ⟨A6, cap6, rfl, hcap6, hmax6, hat6⟩ := own_view HO6.out ; obtain ⟨b6, rfl, hB6, -, -, -⟩ := hat6 (by omega) ; clear hat6)
              unfold maxLen at hmax6
              have HT6 := Lib.hid (show w6.ownsRow w1.heap.size 2 1 (.slice (some ⟨b6, 0, none⟩) (S.length + 1) cap6) (S.length + 1) (ints (shT S v S.length)) by rw [shT_top]; simpa [ints] using HO6.out)
              go_wp2_with fail
              go_loopw [11] (fun i wr => ∃ m : Nat, i = (.int .i64 ((m : Int))) ∧ (q + 1) ≤ m ∧ m ≤ S.length ∧ Hid (wr.ownsRow w1.heap.size 2 1 (.slice (some ⟨b6, 0, none⟩) (S.length + 1) cap6) (S.length + 1) (ints (shT S v m))) ∧ Below w1.heap.size w1 wr) (fun i _ => (intOf i).toNat)
              case atStart => exact ⟨S.length, by go_num, hp, Nat.le_refl _, HT6, hb6⟩
              case round =>
                obtain ⟨m, rfl, hm1, hm2, HT, hb⟩ := hrel
                have hTl := shT_len (v := v) hm2
                by_cases hgt : (q + 1) < m
                · obtain ⟨r, rfl⟩ : ∃ r, m = r + 1 := ⟨m - 1, by omega⟩
                  obtain ⟨g1, f1⟩ := rowcell2 (r := r) HT.out (by omega) hTl
                  obtain ⟨g2, f2⟩ := rowcell2 (r := r + 1) HT.out (by omega) hTl
                  rw [shT_get hm2 (by omega) (by omega)] at g1
                  have HS2 := Lib.hid (shT_step (v := v) hm2)
                  generalize (shT S v (r + 1)).getD (r + 1) 0 = z at *
                  generalize S.getD r 0 = x at *
                  have HT2 := Lib.hid (own_set (j := r + 1) (u := (.int .i64 x)) HT.out)
                  go_wp2_with fail
                  go_roundw
                  case rel => exact ⟨r, by go_num, by omega, by omega, Lib.hid (by rw [← HS2.out, ← ints_setV]; exact HT2.out), Below.setCell hb (p := ⟨b6, r + 1, none⟩) hB6 _⟩
                  case measure => simp [intOf] <;> omega
                · obtain rfl : m = (q + 1) := by omega
                  obtain ⟨g1, f1⟩ := rowcell2 (r := (q + 1)) HT.out (by omega) hTl
                  generalize (shT S v (q + 1)).getD (q + 1) 0 = z at *
                  have HT2 := Lib.hid (own_set (j := (q + 1)) (u := (.int .i64 v)) HT.out)
                  rw [ints_setV, ← HI.out] at HT2
                  have HLn := Lib.hid (show (insS S v).length = S.length + 1 by rw [HI.out, List.length_set, hTl])
                  go_wp2_with fail
                  go_roundw
                  case rel => exact ⟨j + 1, y + 1, by go_num, Lib.hid (by omega), by omega, Lib.hid (by rw [HR.out, HLn.out]; exact HT2.out), Below.setCell hb (p := ⟨b6, (q + 1), none⟩) hB6 _⟩
                  case measure => simp [intOf] <;> omega
            · obtain ⟨b0, rfl, -, -, hcc, -⟩ := HA.out (by omega)
              have g0 := hcc q _ (ints_at (by omega))
              have HI := Lib.hid (ins_in (S := S) (v := v) (by rw [← hx, List.getD_eq_getElem?_getD, List.getElem?_eq_getElem (show q < S.length by omega)]; exact List.getElem_mem _))
              clear hcc
              rw [hx] at g0
              clear hx
              go_wp2_with fail
              go_roundw
              case rel => exact ⟨j + 1, y + 1, by go_num, Lib.hid (by omega), by omega, Lib.hid (by rw [HR.out, HI.out]; exact HO4.out), hB4⟩
              case measure => simp [intOf] <;> omega
            · obtain ⟨b0, rfl, -, -, hcc, -⟩ := HA.out (by omega)
              have g0 := hcc q _ (ints_at (by omega))
              have HP' := Lib.hid (show ∀ i, q ≤ i → i < S.length → v < S.getD i 0 from fun i h1 h2 => by
                rcases (show i = q ∨ q + 1 ≤ i by omega) with h | h
                · subst h; exact hx
                · exact HP.out i h h2)
              clear hcc
              generalize S.getD q 0 = x at *
              go_wp2_with fail
              go_roundw
              case rel => exact ⟨q, by go_num, by omega, HP', by first | rfl | trivial⟩
              case measure => simp [intOf] <;> omega
        · obtain rfl : j = M := by omega
          have HR := Lib.hid (show sall f N j (k + 1) = srow f N k (sall f N j k) j from rfl)
          go_wp2_with fail
          go_roundw
          case rel => exact ⟨k + 1, by go_num, by omega, Lib.hid (by rw [HR.out]; exact HO.out), hb⟩
          case measure => simp [intOf]; omega
    · obtain rfl : k = N + 1 := by omega
      obtain ⟨A, cap, rfl, -, -, -⟩ := own_view HO.out
      go_wp2_with fail
      go_ret2
      exact ⟨_, rfl, own_baseV HO.out hB1.size, hB1.trans (hb.mono hB1.size)⟩
end Go.Proofs.YtcaiofhdcffogaaGreat
