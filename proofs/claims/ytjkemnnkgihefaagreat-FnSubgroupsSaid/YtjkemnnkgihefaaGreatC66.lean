/- Contracts: LineOf; its law. -/
import Derived.Test.YtjkemnnkgihefaaGreatC65
namespace Go.Proofs.YtjkemnnkgihefaaGreat
open Go.RowKit
structure SSRes where
  xss : List (List Int)
  n : Nat
  c : Int
def lineRes (n : Int) : SSRes := if inB n 1 60 = true then ⟨lineXs (lineL n), (lineL n).length, 0⟩ else ⟨[], 0, 2⟩
theorem offs_line (l : List P2) : ∀ k, k ≤ l.length → offs (lineXs l) k = 2 * k
  | 0, _ => rfl
  | k + 1, h => by
    show offs (lineXs l) k + ((lineXs l).getD k []).length = _
    rw [offs_line l k (by omega), lineXs_at (show k < l.length by omega)]
    simp; omega
theorem lineRes_n (n : Int) : (lineRes n).n ≤ 1000000 ∧ offs (lineRes n).xss (lineRes n).n ≤ 1000000000 := by
  unfold lineRes
  split
  · rename_i h
    have := (inB_iff.1 h).2
    have hl := lineL_len this
    simp only
    rw [offs_line _ _ (Nat.le_refl _)]
    omega
  · simp [offs]
theorem sLineOf_any (n : Int) (w : World) :
    Calls Tryz.prog 19 #[(.int .i64 n)] w fun e w' => ∃ v inn, e = .returned (.tuple #[v, (.int .i64 ((lineRes n).c))]) ∧ SS w' w.heap.size v (lineRes n).n inn (lenX (lineRes n).xss) (intX (lineRes n).xss) ∧ Below w.heap.size w w' := by
  have H1 := Lib.hid (fun W => l01In_any n 1 60 W)
  cases hn : inB n 1 60
  · rw [show lineRes n = ⟨[], 0, 2⟩ by simp [lineRes, hn]]
    rw [hn] at H1
    go_enter Tryz.func19, Tryz.ntmps19
    go_wp2_with fail
    refine (H1.out _).mono ?_; rintro e w' ⟨rfl, rfl⟩
    go_wp2_with fail
    go_ret2
    exact ⟨_, [], rfl, OwnsSS.nil _ _ _ _ _ _, Below.refl _ _⟩
  · rw [show lineRes n = ⟨lineXs (lineL n), (lineL n).length, 0⟩ by simp [lineRes, hn]]
    rw [hn] at H1
    obtain ⟨n0, n1⟩ := inB_iff.1 hn
    clear hn
    obtain ⟨N, rfl⟩ := Int.eq_ofNat_of_zero_le (show 0 ≤ n by omega)
    have HL := Lib.hid (fun W => l06Line_any N W (by omega) (by omega))
    generalize lineL (N : Int) = L at *
    go_enter Tryz.func19, Tryz.ntmps19
    go_wp2_with fail
    refine (H1.out _).mono ?_; rintro e w' ⟨rfl, rfl⟩
    go_wp2_with fail
    refine (HL.out _).mono ?_; rintro e w1 ⟨v, inn, rfl, hown, hb1⟩
    have HO := Lib.hid hown
    clear hown
    go_wp2_with fail
    go_ret2
    exact ⟨_, inn, rfl, HO.out, hb1⟩
set_option maxRecDepth 100000 in
set_option maxHeartbeats 4000000 in
theorem LineOf_any (n : Int) (w : World) :
    Calls Tryz.prog 18 #[(.int .i64 n)] w fun e w' => ∃ v inn, e = .returned (.tuple #[v, (.int .i64 ((lineRes n).c))]) ∧ SS w' w.heap.size v (lineRes n).n inn (lenX (lineRes n).xss) (intX (lineRes n).xss) ∧ Below w.heap.size w w' := by
  have H1 := Lib.hid (fun W => isLevel_any n W)
  cases hn : inB n 1 60
  · rw [show lineRes n = ⟨[], 0, 2⟩ by simp [lineRes, hn]]
    rw [hn] at H1
    go_enter Tryz.func18, Tryz.ntmps18
    go_wp2_with fail
    refine (H1.out _).mono ?_; rintro e w' ⟨rfl, rfl⟩
    go_wp2_with fail
    go_ret2
    exact ⟨_, [], rfl, OwnsSS.nil _ _ _ _ _ _, Below.refl _ _⟩
  · rw [show lineRes n = ⟨lineXs (lineL n), (lineL n).length, 0⟩ by simp [lineRes, hn]]
    rw [hn] at H1
    obtain ⟨n0, n1⟩ := inB_iff.1 hn
    have hl := lineL_len n1
    clear hn
    obtain ⟨N, rfl⟩ := Int.eq_ofNat_of_zero_le (show 0 ≤ n by omega)
    have HL := Lib.hid (fun W => line_any N W (by omega) (by omega))
    generalize lineL (N : Int) = L at *
    go_enter Tryz.func18, Tryz.ntmps18
    go_wp2_with fail
    refine (H1.out _).mono ?_; rintro e w' ⟨rfl, rfl⟩
    go_wp2_with fail
    refine (HL.out _).mono ?_; rintro e w1 ⟨v, rfl, hown, hb1⟩
    obtain ⟨A, cap, rfl, hcap, hmax, hat⟩ := own_view hown
    unfold maxLen at hmax
    have HA := Lib.hid hat
    have H0 := Lib.hid ((OwnsSS.lit0 w w.heap.size 46 2 (lenX (lineXs (L.take 0))) (intX (lineXs (L.take 0))) (Nat.le_refl _)).below hb1)
    have hB1 : Below w.heap.size w w1 := bfin (by go_grown) hb1
    have hs1 := hb1.size
    simp at hs1
    clear hown hat
    go_wp2_with fail
    go_loopw [4, 14] (fun v i wr => ∃ k : Nat, i = (.int .i64 ((k : Int))) ∧ k ≤ L.length ∧ Hid (∃ inn, SS wr w.heap.size v k inn (lenX (lineXs (L.take k))) (intX (lineXs (L.take k)))) ∧ Below w.heap.size w wr ∧ Lies w.heap.size w1 v wr) (fun _ i _ => L.length - (intOf i).toNat)
    case atStart => exact ⟨0, rfl, Nat.zero_le _, Lib.hid ⟨[], H0.out⟩, hB1, Lies.start _ _ _ _⟩
    case round =>
      obtain ⟨k, rfl, hk, HO, hb, hbw⟩ := hrel
      have hsz := hb.size
      by_cases hlt : k < L.length
      · obtain ⟨b, rfl, -, hbl, hc, -⟩ := (HA.out.lies hbw (by simp)) (by omega)
        obtain ⟨hx, hy⟩ := flat2_at hlt
        have h1 := hc _ _ hx
        have h2 := hc _ _ hy
        have HT := Lib.hid (show L.take (k + 1) = L.take k ++ [L[k]] from List.take_succ_eq_append_getElem hlt)
        have HTl := Lib.hid (show (L.take k).length = k by simp; omega)
        clear hc hx hy
        generalize L[k] = p at *
        obtain ⟨inn, HO3⟩ := HO.out
        have HO3 := Lib.hid (show LineSS wr w.heap.size u4 (L.take k) inn by unfold LineSS; rw [HTl.out]; exact HO3)
        have hO4 : wr.ownsRow w.heap.size 46 1 u4 k inn := by have := HO3.out.out; rwa [HTl.out] at this
        have HO4 := Lib.hid hO4
        clear hO4
        go_wp2_with (at_builtin; refine app_one elS rfl _ _ rfl rfl rfl (by simp) ((HO4.out.alloc _).alloc _) ((hb.alloc hsz _).alloc (Nat.le_trans hsz (by simp)) _) rfl (by intro u hu; simp at hu; first | (subst hu; rfl) | (rcases hu with rfl | rfl <;> rfl) | (rcases hu with rfl | rfl | rfl <;> rfl) | (rcases hu with rfl | rfl | rfl | rfl <;> rfl)) (((hb.alloc hsz _).alloc (Nat.le_trans hsz (by simp)) _).size) (by omega) ?_; intro v' w7 hown7 hb7 hg7; have HO7 := Lib.hid hown7; clear hown7)
        have HP := Lib.hid (LineSS.push (p := p) (HO3.out.below (w' := wr.alloc (.cells #[(.int .i64 p.x), (.int .i64 p.y)] 64)) ((Below.refl _ _).alloc (Nat.le_refl _) _)) (Nat.le_trans hsz (by simp)) (by rw [HTl.out]; simpa using HO7.out) hg7)
        have hbw7 := ((hbw.below ((Below.refl _ _).alloc (Nat.le_refl _) _)).below ((Below.refl _ _).alloc (Nat.le_refl _) _)).app hg7
        clear hg7
        go_wp2_with fail
        go_roundw
        case rel => exact ⟨k + 1, by go_num, by omega, Lib.hid ⟨_, by have := HP.out; unfold LineSS at this; rw [HT.out]; simpa [HTl.out] using this⟩, hb7, hbw7⟩
        case measure => simp [intOf]; omega
      · obtain rfl : k = L.length := by omega
        have HT := Lib.hid (show L.take L.length = L from List.take_length)
        go_wp2_with fail
        go_ret2
        obtain ⟨inn, h⟩ := HO.out
        rw [HT.out] at h
        exact ⟨_, inn, rfl, h, hb⟩
end Go.Proofs.YtjkemnnkgihefaaGreat
