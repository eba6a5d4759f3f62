/- Contracts: the trace of a root, by halving. -/
import Derived.Test.YtencfmipplgnkaaC79
namespace Go.Proofs.Ytencfmipplgnkaa
open Go.RowKit
open Classical in
/-- The trace of a root of k, or 0. -/
noncomputable def torV (t : Int) (k : Nat) : Int := if h : ∃ s, 3 ≤ s ∧ tr s k = t then h.choose else 0
theorem torV_yes {t s : Int} {k : Nat} (hk : 1 ≤ k) (hs : 3 ≤ s) (h : tr s k = t) : torV t k = s := by
  have hx : ∃ s, 3 ≤ s ∧ tr s k = t := ⟨s, hs, h⟩
  unfold torV
  rw [dif_pos hx]
  exact tr_inj hx.choose_spec.1 hs hk (hx.choose_spec.2.trans h.symm)
theorem torV_no {t : Int} {k : Nat} (h : ∀ s, 3 ≤ s → tr s k ≠ t) : torV t k = 0 := by
  unfold torV
  exact dif_neg fun ⟨s, h1, h2⟩ => h s h1 h2
structure Half (t : Int) (k : Nat) (lo hi : Int) : Prop where
  l : lo = 3 ∨ tr (lo - 1) k < t
  h : t ≤ tr hi k
theorem Half.no {t lo : Int} {k : Nat} (hk : 1 ≤ k) (h3 : 3 ≤ lo) (h : Half t k lo lo) (hn : tr lo k ≠ t) : torV t k = 0 := torV_no fun s hs e => by
  obtain ⟨h1, h2⟩ := h
  rcases (show s < lo ∨ s = lo ∨ lo < s by omega) with g | g | g
  · rcases h1 with h1 | h1
    · omega
    · by_cases e2 : s = lo - 1
      · subst e2; omega
      · have := tr_lt hs (show s < lo - 1 by omega) hk; omega
  · subst g; exact hn e
  · have := tr_lt h3 g hk; omega
theorem half_start {t : Int} {k : Nat} (hk : 2 ≤ k) (ht : t ≤ 2000000000) : Half t k 3 100000 := by
  refine ⟨.inl rfl, ?_⟩
  have := tr_le (show (3 : Int) ≤ 100000 by omega) hk
  rw [tr_two] at this
  omega
set_option maxRecDepth 100000 in
set_option maxHeartbeats 1000000 in
theorem traceOfRoot_any (t : Int) (k : Nat) (w : World) (hk : 2 ≤ k) (hk2 : k ≤ 100) (ht0 : 3 ≤ t) (ht : t ≤ 2000000000) :
    Calls Try.prog 70 #[(.int .i64 t), (.int .i64 ((k : Int)))] w fun e w' => e = .returned (.int .i64 (torV t k)) ∧ w = w' := by
  have H0 := Lib.hid (half_start hk ht)
  have HP := Lib.hid (fun s W h1 h2 => powers_any s k W h1 h2 (by omega) hk2)
  go_enter Try.func70, Try.ntmps70
  go_wp2_with fail
  go_loop [5, 6] (fun p q => ∃ lo hi : Int, p = (.int .i64 lo) ∧ q = (.int .i64 hi) ∧ 3 ≤ lo ∧ lo ≤ hi ∧ hi ≤ 100000 ∧ Hid (Half t k lo hi)) (fun p q => (intOf q - intOf p).toNat)
  case atStart => exact ⟨3, 100000, rfl, rfl, by omega, by omega, by omega, H0⟩
  case round =>
    obtain ⟨lo, hi, rfl, rfl, l3, lh, hh, HH⟩ := hrel
    by_cases hlt : lo < hi
    · have hm : (lo + hi).tdiv 2 = (lo + hi) / 2 := Int.tdiv_eq_ediv_of_nonneg (by omega)
      obtain ⟨mid, hmid⟩ : ∃ m, m = (lo + hi) / 2 := ⟨_, rfl⟩
      rw [← hmid] at hm
      have m0 : lo ≤ mid := by omega
      have m1 : mid < hi := by omega
      clear hmid
      have HQ := Lib.hid (fun W => HP.out mid W (by omega) (by omega))
      by_cases hc : tr mid k < t
      · have HN := Lib.hid (show Half t k (mid + 1) hi from ⟨.inr (by rw [Int.add_sub_cancel]; exact hc), HH.out.h⟩)
        rw [pwV_ok (show tr mid k ≤ 4000000000 by omega)] at HQ
        have hp := tr_pos (show 3 ≤ mid by omega) k
        generalize tr mid k = v at *
        generalize un mid k = v1 at *
        generalize un mid (k - 1) = v2 at *
        go_wp2_with fail
        refine (HQ.out _).mono ?_; rintro e w' ⟨rfl, rfl⟩
        go_wp2_with fail
        go_round
        case rel => exact ⟨mid + 1, hi, rfl, rfl, by omega, by omega, by omega, HN⟩
        case measure => simp [intOf]; omega
      · have HN := Lib.hid (show Half t k lo mid from ⟨HH.out.l, by omega⟩)
        by_cases hb : tr mid k ≤ 4000000000
        · rw [pwV_ok hb] at HQ
          generalize tr mid k = v at *
          generalize un mid k = v1 at *
          generalize un mid (k - 1) = v2 at *
          go_wp2_with fail
          refine (HQ.out _).mono ?_; rintro e w' ⟨rfl, rfl⟩
          go_wp2_with fail
          go_round
          case rel => exact ⟨lo, mid, rfl, rfl, by omega, by omega, by omega, HN⟩
          case measure => simp [intOf]; omega
        · rw [pwV_no hb] at HQ
          clear hb hc
          go_wp2_with fail
          refine (HQ.out _).mono ?_; rintro e w' ⟨rfl, rfl⟩
          go_wp2_with fail
          go_round
          case rel => exact ⟨lo, mid, rfl, rfl, by omega, by omega, by omega, HN⟩
          case measure => simp [intOf]; omega
    · obtain rfl : lo = hi := by omega
      have HQ := Lib.hid (fun W => HP.out lo W (by omega) (by omega))
      by_cases hc : tr lo k = t
      · have HV := Lib.hid (torV_yes (show 1 ≤ k by omega) l3 hc)
        rw [pwV_ok (show tr lo k ≤ 4000000000 by omega)] at HQ
        rw [hc] at HQ
        clear hc
        generalize un lo k = v1 at *
        generalize un lo (k - 1) = v2 at *
        go_wp2_with fail
        refine (HQ.out _).mono ?_; rintro e w' ⟨rfl, rfl⟩
        go_wp2_with fail
        go_ret
        exact ⟨by rw [HV.out] <;> rfl, rfl⟩
      · have HV := Lib.hid (HH.out.no (show 1 ≤ k by omega) l3 hc)
        by_cases hb : tr lo k ≤ 4000000000
        · rw [pwV_ok hb] at HQ
          generalize tr lo k = v at *
          generalize un lo k = v1 at *
          generalize un lo (k - 1) = v2 at *
          go_wp2_with fail
          refine (HQ.out _).mono ?_; rintro e w' ⟨rfl, rfl⟩
          go_wp2_with fail
          go_ret
          exact ⟨by rw [HV.out] <;> rfl, rfl⟩
        · rw [pwV_no hb] at HQ
          clear hb hc
          go_wp2_with fail
          refine (HQ.out _).mono ?_; rintro e w' ⟨rfl, rfl⟩
          go_wp2_with fail
          go_ret
          exact ⟨by rw [HV.out] <;> rfl, rfl⟩
end Go.Proofs.Ytencfmipplgnkaa
