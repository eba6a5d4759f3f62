/- Contracts: the word of a positive matrix, by the program. -/
import Derived.Test.YtencfmipplgnkaaP2
import Derived.Test.YtencfmipplgnkaaNa
import Derived.Test.YtencfmipplgnkaaShR
namespace Go.Proofs.Ytencfmipplgnkaa
open Go.RowKit
theorem isMat_low {m : Q4} (h : Pos m) (hl : Low m) : isMat m.a m.b m.c m.d = true := by
  obtain ⟨h1, h2, h3, h4, h5⟩ := h
  obtain ⟨l1, l2, l3, l4⟩ := hl
  simp only [isMat, Bool.and_eq_true, entB_iff, beq_iff_eq]
  exact ⟨by omega, by omega, by omega, by omega, h5⟩
theorem evMod {k : Nat} {b : Bool} (h : evB k = b) : (k : Int) % 2 = if b then 0 else 1 := by
  subst h
  unfold evB
  rcases Nat.mod_two_eq_zero_or_one k with h | h
  · rw [h]; simp; omega
  · rw [h]; simp; omega
theorem rep_true (n : Nat) (w : World) (hn : n ≤ 1000) :
    Calls Try.prog 122 #[.string ((⟨#[84, 76]⟩ : ByteArray).extract 0 1), (.int .i64 ((n : Int)))] w fun e w' => e = .returned (.string (wS (List.replicate n true))) ∧ Below w.heap.size w w' := by
  have h := sh_strings_Repeat ⟨#[84]⟩ n w (by omega) (by show 1 * n ≤ _; omega)
  rw [← wS_rep]
  exact h
theorem rep_false (n : Nat) (w : World) (hn : n ≤ 1000) :
    Calls Try.prog 122 #[.string ((⟨#[84, 76]⟩ : ByteArray).extract 1 2), (.int .i64 ((n : Int)))] w fun e w' => e = .returned (.string (wS (List.replicate n false))) ∧ Below w.heap.size w w' := by
  have h := sh_strings_Repeat ⟨#[76]⟩ n w (by omega) (by show 1 * n ≤ _; omega)
  rw [← wS_rep]
  exact h
set_option maxRecDepth 100000 in
set_option maxHeartbeats 1000000 in
theorem PositiveWord_any (l : List Bool) (w : World) (hl : l.length ≤ 200) (hlow : Low (wM l)) :
    Calls Try.prog 75 #[(.agg #[.int .i64 ((wM l).a), .int .i64 ((wM l).b), .int .i64 ((wM l).c), .int .i64 ((wM l).d)])] w fun e w' => e = .returned (.tuple #[.string (wS l), (.int .i64 0)]) ∧ Below w.heap.size w w' := by
  have hp := wM_pos l
  have HC := Lib.hid (fun W => positiveCode_yes _ _ _ _ W (isMat_low hp hlow) (by have := hp.a; omega) hp.b hp.c (by have := hp.d; omega))
  have HRu := Lib.hid (fun W => runs_any l W (by omega) hlow)
  clear hp hlow
  generalize (wM l).a = x at *
  generalize (wM l).b = y at *
  generalize (wM l).c = z at *
  generalize (wM l).d = s at *
  go_enter Try.func75, Try.ntmps75
  go_wp2_with fail
  refine (HC.out _).mono ?_; rintro e w1 ⟨rfl, hb1⟩
  obtain ⟨hc1, hf1⟩ := bcell hb1
  go_wp2_with fail
  refine (HRu.out _).mono ?_; rintro e w3 ⟨D, v, rfl, HR, ho, hb3⟩
  have HR2 := Lib.hid HR
  obtain ⟨A, cap, rfl, -, hcm, hat⟩ := own_view ho
  have R := Lib.hid hat
  have T := Lib.hid (show Below w.heap.size w w3 from bfin (bfin (by go_grown) hb1) hb3)
  have hD := expR_len_le HR
  clear HR ho hat HRu HC
  go_wp2_with fail
  go_loopw [5, 6, 7, 16] (fun u _ _ i wr => ∃ k : Nat, i = (.int .i64 ((k : Int))) ∧ k ≤ D.length ∧ u = .string (wS (soFar D k)) ∧ Hid (Below w3.heap.size w3 wr)) (fun _ _ _ i _ => D.length - (intOf i).toNat)
  case atStart => exact ⟨0, rfl, Nat.zero_le _, rfl, Lib.hid (Below.refl _ _)⟩
  case round =>
    obtain ⟨k, rfl, hk, rfl, HB⟩ := hrel
    by_cases hlt : k < D.length
    · obtain ⟨n, hd, he, hle⟩ := soFar_next HR2.out hlt
      obtain ⟨b, rfl, -, hbl, hc, -⟩ := R.out (by omega)
      have hck := hc k (.int .i64 ((n : Int))) (by simp [ints, hd])
      rw [← HB.out.cell (p := ⟨b, k, none⟩) hbl] at hck
      have hbw : b < wr.heap.size := Nat.lt_of_lt_of_le hbl HB.out.size
      have hlt2 : (k : Int) < (D.length : Int) := by omega
      have hsz := wS_size (soFar D k)
      have HE := Lib.hid (show wS (soFar D (k + 1)) = wS (soFar D k) ++ wS (List.replicate n (evB k)) by rw [he, wS_add])
      have hrl := wS_size (List.replicate n (evB k))
      simp only [List.length_replicate] at hrl
      generalize (soFar D k).length = m at *
      generalize wS (soFar D k) = S at *
      clear he hc hd
      cases hev : evB k
      · have hmod := evMod hev
        rw [hev] at hrl HE
        have HRp := Lib.hid (fun W => rep_false n W (by omega))
        generalize hq : wS (List.replicate n false) = q at *
        clear hq hev
        go_wp2_with fail
        refine (HRp.out _).mono ?_; rintro e w4 ⟨rfl, hb4⟩
        go_wp2_with fail
        go_roundw
        case rel => exact ⟨k + 1, by go_num, by omega, by rw [HE.out], Lib.hid (HB.out.trans (hb4.mono HB.out.size))⟩
        case measure => simp [intOf]; omega
      · have hmod := evMod hev
        rw [hev] at hrl HE
        have HRp := Lib.hid (fun W => rep_true n W (by omega))
        generalize hq : wS (List.replicate n true) = q at *
        clear hq hev
        go_wp2_with fail
        refine (HRp.out _).mono ?_; rintro e w4 ⟨rfl, hb4⟩
        go_wp2_with fail
        go_roundw
        case rel => exact ⟨k + 1, by go_num, by omega, by rw [HE.out], Lib.hid (HB.out.trans (hb4.mono HB.out.size))⟩
        case measure => simp [intOf]; omega
    · obtain rfl : k = D.length := by omega
      have HE := Lib.hid (soFar_all HR2.out)
      go_wp2_with fail
      go_ret2
      exact ⟨by rw [HE.out]; rfl, T.out.trans (HB.out.mono T.out.size)⟩
end Go.Proofs.Ytencfmipplgnkaa
