/- Contracts: the cosets of all cusps; the law CuspsOf. -/
import Derived.Test.YtjkemnnkgihefaaGreatC99
namespace Go.Proofs.YtjkemnnkgihefaaGreat
open Go.RowKit
def idxTo (M : List Int) (c : Int) (i : Nat) : List Int := ((List.range i).filter fun j => M.getD j 0 == c).map fun j : Nat => (j : Int)
theorem idxTo_yes {M : List Int} {c : Int} {i : Nat} (h : M.getD i 0 = c) : idxTo M c (i + 1) = idxTo M c i ++ [(i : Int)] := by
  unfold idxTo
  rw [List.range_succ, List.filter_append, List.map_append]
  have : (List.filter (fun j => M.getD j 0 == c) [i]) = [i] := by rw [List.filter_cons_of_pos (by simpa using h)]; rfl
  rw [this]; rfl
theorem idxTo_no {M : List Int} {c : Int} {i : Nat} (h : M.getD i 0 ≠ c) : idxTo M c (i + 1) = idxTo M c i := by
  unfold idxTo
  rw [List.range_succ, List.filter_append, List.map_append]
  have : (List.filter (fun j => M.getD j 0 == c) [i]) = [] := by rw [List.filter_cons_of_neg (by simpa using h)]; rfl
  rw [this]; simp
theorem idxTo_len (M : List Int) (c : Int) (i : Nat) : (idxTo M c i).length ≤ i := by
  unfold idxTo
  rw [List.length_map]
  exact Nat.le_trans (List.length_filter_le _ _) (by simp)
theorem OwnsSS.base {w : World} {B B' n : Nat} {ES EI : TypeId} {v : Value} {inn : List Value} {len : Nat → Nat} {f : Nat → List Value} (h : OwnsSS w B ES EI v n inn len f) (hB : B' ≤ B) : OwnsSS w B' ES EI v n inn len f :=
  ⟨own_base h.out hB, fun i u hu => own_base (h.row i u hu) hB, h.apart⟩
theorem offs_le {xss : List (List Int)} {K : Nat} (h : ∀ i, (xss.getD i []).length ≤ K) : ∀ n, offs xss n ≤ n * K
  | 0 => by simp [offs]
  | n + 1 => by
    have := offs_le h n
    have := h n
    rw [Nat.succ_mul]
    show offs xss n + (xss.getD n []).length ≤ _
    omega
def cspRes (n : Int) : SSRes := if inB n 1 60 = true then ⟨cusL (cosP n), (cusL (cosP n)).length, 0⟩ else ⟨[], 0, 2⟩
theorem cusN_bd {N : Nat} (n0 : 0 < N) (n1 : N ≤ 60) : CusInv (cosP N) (cosP N).length (cusN (cosP N) (cosP N).length).1 (cusN (cosP N) (cosP N).length).2 ∧ (cosP N).length ≤ 3600 := by
  refine ⟨cusInv (cosP_in n0) _ (Nat.le_refl _), ?_⟩
  rw [cosP_len]; exact lineL_len (by omega)
theorem cspRes_n (n : Int) : (cspRes n).n ≤ 1000000 ∧ offs (cspRes n).xss (cspRes n).n ≤ 1000000000 := by
  unfold cspRes
  split
  · rename_i h
    rw [inB_iff] at h
    obtain ⟨N, rfl⟩ := Int.eq_ofNat_of_zero_le (show 0 ≤ n by omega)
    obtain ⟨hc, hl⟩ := cusN_bd (N := N) (by omega) (by omega)
    have h1 := hc.c1
    have h2 : (cusL (cosP N)).length ≤ 3600 := by unfold cusL; rw [rowsC_len]; omega
    have h3 := offs_le (xss := cusL (cosP N)) (K := 3600) (fun i => by
      unfold cusL
      by_cases hi : i < (cusN (cosP N) (cosP N).length).2.toNat
      · rw [rowsC_at hi]
        have := idxs_len (cusN (cosP N) (cosP N).length).1 i
        rw [hc.len] at this; omega
      · rw [List.getD_eq_getElem?_getD, List.getElem?_eq_none (by rw [rowsC_len]; omega)]; simp) (cusL (cosP N)).length
    have h4 := Nat.mul_le_mul_right 3600 h2
    exact ⟨by simp only; omega, by simp only; omega⟩
  · simp [offs]
set_option maxRecDepth 100000 in
set_option maxHeartbeats 1000000 in
theorem cusps_any (N : Nat) (w : World) (n0 : 0 < N) (n1 : N ≤ 60) :
    Calls Tryz.prog 56 #[(.int .i64 ((N : Int)))] w fun e w' => ∃ v inn, e = .returned v ∧ SS w' w.heap.size v (cusL (cosP N)).length inn (lenX (cusL (cosP N))) (intX (cusL (cosP N))) ∧ Below w.heap.size w w' := by
  have hl := (cusN_bd n0 n1).2
  have HM := Lib.hid (fun W => moved_any N 1 1 0 1 W n0 n1 ⟨by omega, by omega, by omega, by omega, by omega, by omega, by omega, by omega⟩)
  have HO := Lib.hid (fun A cap B W h => orbits_any A cap B (cosP N) W (cosP_in n0) (by omega) h)
  rw [show movedL (N : Int) (lineL N) 1 1 0 1 = cosP N from rfl] at HM
  generalize cosP (N : Int) = p at *
  go_enter Tryz.func56, Tryz.ntmps56
  go_wp2_with fail
  refine (HM.out _).mono ?_; rintro e w1 ⟨v, rfl, hown, hb1⟩
  obtain ⟨A, cap, rfl, -, -, hat⟩ := own_view hown
  have HA := Lib.hid hat
  clear hown hat
  go_wp2_with fail
  refine (HO.out _ _ _ _ HA.out).mono ?_; rintro e w2 ⟨v2, inn, rfl, hs2, hb2⟩
  have HS := Lib.hid (OwnsSS.base hs2 hb1.size)
  clear hs2
  go_wp2_with fail
  go_ret
  exact ⟨_, inn, rfl, HS.out, hb1.trans (hb2.mono hb1.size)⟩
theorem CuspsOf_any (n : Int) (w : World) :
    Calls Tryz.prog 24 #[(.int .i64 n)] w fun e w' => ∃ v inn, e = .returned (.tuple #[v, (.int .i64 ((cspRes n).c))]) ∧ SS w' w.heap.size v (cspRes n).n inn (lenX (cspRes n).xss) (intX (cspRes n).xss) ∧ Below w.heap.size w w' := by
  have H1 := Lib.hid (fun W => isLevel_any n W)
  cases hn : inB n 1 60
  · rw [show cspRes n = ⟨[], 0, 2⟩ by simp [cspRes, hn]]
    rw [hn] at H1
    go_enter Tryz.func24, Tryz.ntmps24
    go_wp2_with fail
    refine (H1.out _).mono ?_; rintro e w' ⟨rfl, rfl⟩
    go_wp2_with fail
    go_ret2
    exact ⟨_, [], rfl, OwnsSS.nil _ _ _ _ _ _, Below.refl _ _⟩
  · rw [show cspRes n = ⟨cusL (cosP n), (cusL (cosP n)).length, 0⟩ by simp [cspRes, hn]]
    rw [hn] at H1
    obtain ⟨n0, n1⟩ := inB_iff.1 hn
    clear hn
    obtain ⟨N, rfl⟩ := Int.eq_ofNat_of_zero_le (show 0 ≤ n by omega)
    have HC := Lib.hid (fun W => cusps_any N W (by omega) (by omega))
    generalize cusL (cosP (N : Int)) = X at *
    go_enter Tryz.func24, Tryz.ntmps24
    go_wp2_with fail
    refine (H1.out _).mono ?_; rintro e w' ⟨rfl, rfl⟩
    go_wp2_with fail
    refine (HC.out _).mono ?_; rintro e w1 ⟨v, inn, rfl, hs, hb1⟩
    have HS := Lib.hid hs
    clear hs
    go_wp2_with fail
    go_ret2
    exact ⟨_, inn, rfl, HS.out, hb1⟩
end Go.Proofs.YtjkemnnkgihefaaGreat
