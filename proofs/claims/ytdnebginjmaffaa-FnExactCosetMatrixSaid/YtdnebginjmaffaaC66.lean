/- Contracts: LineOf; its law. -/
import Derived.Test.YtdnebginjmaffaaC65
namespace Go.Proofs.Ytdnebginjmaffaa
open Go.RowKit
structure SSRes where
  xss : List (List Int)
  n : Nat
  c : Int
def lineRes (n : Int) : SSRes := if inB n 1 60 = true then ⟨lineXs (lineL n), (lineL n).length, 0⟩ else ⟨[], 0, 2⟩
theorem offs_line (l : List P2) : ∀ k, k ≤ l.length → offs (lineXs l) k = 2 * k
  | 0, _ => rfl
  | k + 1, h => by
    show offs (lineXs l) k + ((lineXs l).getD k []).length = _
    rw [offs_line l k (by omega), lineXs_at (show k < l.length by omega)]
    simp; omega
theorem lineRes_n (n : Int) : (lineRes n).n ≤ 1000000 ∧ offs (lineRes n).xss (lineRes n).n ≤ 1000000000 := by
  unfold lineRes
  split
  · rename_i h
    have := (inB_iff.1 h).2
    have hl := lineL_len this
    simp only
    rw [offs_line _ _ (Nat.le_refl _)]
    omega
  · simp [offs]
theorem sLineOf_any (n : Int) (w : World) :
    Calls Try.prog 31 #[(.int .i64 n)] w fun e w' => ∃ v inn, e = .returned (.tuple #[v, (.int .i64 ((lineRes n).c))]) ∧ SS w' w.heap.size v (lineRes n).n inn (lenX (lineRes n).xss) (intX (lineRes n).xss) ∧ Below w.heap.size w w' := by
  have H1 := Lib.hid (fun W => l01In_any n 1 60 W)
  cases hn : inB n 1 60
  · rw [show lineRes n = ⟨[], 0, 2⟩ by simp [lineRes, hn]]
    rw [hn] at H1
    go_enter Try.func31, Try.ntmps31
    go_wp2_with fail
    refine (H1.out _).mono ?_; rintro e w' ⟨rfl, rfl⟩
    go_wp2_with fail
    go_ret2
    exact ⟨_, [], rfl, OwnsSS.nil _ _ _ _ _ _, Below.refl _ _⟩
  · rw [show lineRes n = ⟨lineXs (lineL n), (lineL n).length, 0⟩ by simp [lineRes, hn]]
    rw [hn] at H1
    obtain ⟨n0, n1⟩ := inB_iff.1 hn
    clear hn
    obtain ⟨N, rfl⟩ := Int.eq_ofNat_of_zero_le (show 0 ≤ n by omega)
    have HL := Lib.hid (fun W => l06Line_any N W (by omega) (by omega))
    generalize lineL (N : Int) = L at *
    go_enter Try.func31, Try.ntmps31
    go_wp2_with fail
    refine (H1.out _).mono ?_; rintro e w' ⟨rfl, rfl⟩
    go_wp2_with fail
    refine (HL.out _).mono ?_; rintro e w1 ⟨v, inn, rfl, hown, hb1⟩
    have HO := Lib.hid hown
    clear hown
    go_wp2_with fail
    go_ret2
    exact ⟨_, inn, rfl, HO.out, hb1⟩
set_option maxRecDepth 100000 in
set_option maxHeartbeats 4000000 in
theorem LineOf_any (n : Int) (w : World) :
    Calls Try.prog 32 #[(.int .i64 n)] w fun e w' => ∃ v inn, e = .returned (.tuple #[v, (.int .i64 ((lineRes n).c))]) ∧ SS w' w.heap.size v (lineRes n).n inn (lenX (lineRes n).xss) (intX (lineRes n).xss) ∧ Below w.heap.size w w' := by
  have H1 := Lib.hid (fun W => isLevel_any n W)
  cases hn : inB n 1 60
  · rw [show lineRes n = ⟨[], 0, 2⟩ by simp [lineRes, hn]]
    rw [hn] at H1
    go_enter Try.func32, Try.ntmps32
    go_wp2_with fail
    refine (H1.out _).mono ?_; rintro e w' ⟨rfl, rfl⟩
    go_wp2_with fail
    go_ret2
    exact ⟨_, [], rfl, OwnsSS.nil _ _ _ _ _ _, Below.refl _ _⟩
  · rw [show lineRes n = ⟨lineXs (lineL n), (lineL n).length, 0⟩ by simp [lineRes, hn]]
    rw [hn] at H1
    obtain ⟨n0, n1⟩ := inB_iff.1 hn
    have hl := lineL_len n1
    clear hn
    obtain ⟨N, rfl⟩ := Int.eq_ofNat_of_zero_le (show 0 ≤ n by omega)
    have HL := Lib.hid (fun W => line_any N W (by omega) (by omega))
    generalize lineL (N : Int) = L at *
    go_enter Try.func32, Try.ntmps32
    go_wp2_with fail
    refine (H1.out _).mono ?_; rintro e w' ⟨rfl, rfl⟩
    go_wp2_with fail
    refine (HL.out _).mono ?_; rintro e w1 ⟨v, rfl, hown, hb1⟩
    obtain ⟨A, cap, rfl, hcap, hmax, hat⟩ := own_view hown
    unfold maxLen at hmax
    have HA := Lib.hid hat
    have H0 := Lib.hid ((OwnsSS.lit0 w w.heap.size 55 2 (lenX (lineXs (L.take 0))) (intX (lineXs (L.take 0))) (Nat.le_refl _)).below hb1)
    have hB1 : Below w.heap.size w w1 := bfin (by go_grown) hb1
    have hs1 := hb1.size
    simp at hs1
    clear hown hat
    go_wp2_with fail
    go_loopw [4, 14] (fun v i wr => ∃ k : Nat, i = (.int .i64 ((k : Int))) ∧ k ≤ L.length ∧ Hid (∃ inn, SS wr w.heap.size v k inn (lenX (lineXs (L.take k))) (intX (lineXs (L.take k)))) ∧ Below w.heap.size w wr ∧ Lies w.heap.size w1 v wr) (fun _ i _ => L.length - (intOf i).toNat)
    case atStart => exact ⟨0, rfl, Nat.zero_le _, Lib.hid ⟨[], H0.out⟩, hB1, Lies.start _ _ _ _⟩
    case round =>
      obtain ⟨k, rfl, hk, HO, hb, hbw⟩ := hrel
      have hsz := hb.size
      by_cases hlt : k < L.length
      · obtain ⟨b, rfl, -, hbl, hc, -⟩ := (HA.out.lies hbw (by simp)) (by omega)
        obtain ⟨hx, hy⟩ := flat2_at hlt
        have h1 := hc _ _ hx
        have h2 := hc _ _ hy
        have HT := Lib.hid (show L.take (k + 1) = L.take k ++ [L[k]] from List.take_succ_eq_append_getElem hlt)
        have HTl := Lib.hid (show (L.take k).length = k by simp; omega)
        clear hc hx hy
        generalize L[k] = p at *
        obtain ⟨inn, HO3⟩ := HO.out
        have HO3 := Lib.hid (show LineSS wr w.heap.size u4 (L.take k) inn by unfold LineSS; rw [HTl.out]; exact HO3)
        have hO4 : wr.ownsRow w.heap.size 55 1 u4 k inn := by have := HO3.out.out; rwa [HTl.out] at this
        have HO4 := Lib.hid hO4
        clear hO4
        go_wp2_with (at_builtin; refine app_one elS rfl _ _ rfl rfl rfl (by simp) ((HO4.out.alloc _).alloc _) ((hb.alloc hsz _).alloc (Nat.le_trans hsz (by simp)) _) rfl (by intro u hu; simp at hu; first | (subst hu; rfl) | (rcases hu with rfl | rfl <;> rfl) | (rcases hu with rfl | rfl | rfl <;> rfl) | (rcases hu with rfl | rfl | rfl | rfl <;> rfl)) (((hb.alloc hsz _).alloc (Nat.le_trans hsz (by simp)) _).size) (by omega) ?_; intro v' w7 hown7 hb7 hg7; have HO7 := Lib.hid hown7; clear hown7)
        have HP := Lib.hid (LineSS.push (p := p) (HO3.out.below (w' := wr.alloc (.cells #[(.int .i64 p.x), (.int .i64 p.y)] 61)) ((Below.refl _ _).alloc (Nat.le_refl _) _)) (Nat.le_trans hsz (by simp)) (by rw [HTl.out]; simpa using HO7.out) hg7)
        have hbw7 := ((hbw.below ((Below.refl _ _).alloc (Nat.le_refl _) _)).below ((Below.refl _ _).alloc (Nat.le_refl _) _)).app hg7
        clear hg7
        go_wp2_with fail
        go_roundw
        case rel => exact ⟨k + 1, by go_num, by omega, Lib.hid ⟨_, by have := HP.out; unfold LineSS at this; rw [HT.out]; simpa [HTl.out] using this⟩, hb7, hbw7⟩
        case measure => simp [intOf]; omega
      · obtain rfl : k = L.length := by omega
        have HT := Lib.hid (show L.take L.length = L from List.take_length)
        go_wp2_with fail
        go_ret2
        obtain ⟨inn, h⟩ := HO.out
        rw [HT.out] at h
        exact ⟨_, inn, rfl, h, hb⟩
set_option maxRecDepth 100000 in
set_option maxHeartbeats 2000000 in
theorem lawFnExactLineOf (n : Int) (_ : I64 n) (w : World) :
    Calls Try.prog 10 #[(.int .i64 n)] w fun e w' => e = .returned (.bool true) ∧ Below w.heap.size w w' := by
  have HS := Lib.hid (sLineOf_any n)
  have HI := Lib.hid (LineOf_any n)
  have hn := lineRes_n n
  generalize lineRes n = R at HS HI hn
  obtain ⟨xss, n, c⟩ := R
  obtain ⟨hn, ho⟩ : n ≤ 1000000 ∧ offs xss n ≤ 1000000000 := hn
  go_enter Try.func10, Try.ntmps10
  have hn2 : (c != c) = false := by simp
  have hml : n ≤ maxLen := by unfold maxLen; omega
  have HO := Lib.hid ho
  obtain ⟨q, hq⟩ : ∃ q, offs xss n = q := ⟨_, rfl⟩
  have HQ := Lib.hid hq
  rw [hq] at ho
  clear hq
  go_wp2_with fail
  refine (HS.out _).mono ?_; rintro e w1 ⟨v0, inn0, rfl, ho0, hb1⟩
  obtain ⟨A0, cap0, rfl, -, -, -⟩ := own_view ho0.out
  have O0 := Lib.hid ho0
  clear ho0
  go_wp2_with fail
  refine (HI.out _).mono ?_; rintro e w2 ⟨v1, inn1, rfl, ho1, hb2⟩
  obtain ⟨A1, cap1, rfl, -, -, -⟩ := own_view ho1.out
  have O1 := Lib.hid ho1
  clear ho1
  go_wp2_with fail
  refine (eqInt64SS_same A1 A0 n cap1 cap0 _ _ _ _ xss w2 hml O1.out (O0.out.below hb2)).mono ?_; rintro e w3 ⟨rfl, hb3⟩
  have O3 := Lib.hid (O1.out.below hb3)
  have T3 := hb2.trans (hb3.mono hb2.size)
  have M := Lib.hid (markInt64SS_any (.slice A1 n cap1) n w1.heap.size inn1 xss 1 w3 (by omega) (by omega) (by have := HO.out; omega) O3.out)
  rw [HQ.out] at M
  go_wp2_with fail
  refine (M.out).mono ?_; rintro e w4 ⟨rfl, ho4, hu4⟩
  have T4 := T3.trans (hu4.below T3.size)
  have O4 := Lib.hid ho4
  clear ho4 hu4 M
  have hm0 : ¬ ((1 : Int) + (q : Int) < 0) := by omega
  have hm1 : ((1 : Int) + (q : Int) != 1 + (q : Int)) = false := by simp
  have G4 := Lib.hid (heldInt64SS_any (.slice A1 n cap1) n _ inn1 xss 1 w4 (by omega) (by omega) (by have := HO.out; omega) O4.out)
  rw [HQ.out] at G4
  go_wp2_with fail
  refine (G4.out).mono ?_; rintro e w5 ⟨rfl, hb5⟩
  clear G4
  have T5 := T4.trans (hb5.mono T4.size)
  have O5 := Lib.hid (O4.out.below hb5)
  go_wp2_with fail
  refine (HI.out _).mono ?_; rintro e w6 ⟨v2, inn2, rfl, ho6, hb6⟩
  obtain ⟨A2, cap2, rfl, -, -, -⟩ := own_view ho6.out
  have O6' := Lib.hid ho6
  clear ho6
  have T6 := T5.trans (hb6.mono T5.size)
  have O6 := Lib.hid (O5.out.below hb6)
  go_wp2_with fail
  refine (eqInt64SS_same A2 A0 n cap2 cap0 _ _ _ _ xss w6 hml O6'.out (O0.out.below T6)).mono ?_; rintro e w7 ⟨rfl, hb7⟩
  have T7 := T6.trans (hb7.mono T6.size)
  have O7 := Lib.hid (O6.out.below hb7)
  have G7 := Lib.hid (heldInt64SS_any (.slice A1 n cap1) n _ inn1 xss 1 w7 (by omega) (by omega) (by have := HO.out; omega) O7.out)
  rw [HQ.out] at G7
  go_wp2_with fail
  refine (G7.out).mono ?_; rintro e w8 ⟨rfl, hb8⟩
  have T8 := T7.trans (hb8.mono T7.size)
  go_wp2_with fail
  go_ret
  exact ⟨rfl, hb1.trans (T8.mono hb1.size)⟩
end Go.Proofs.Ytdnebginjmaffaa
