/- Contracts: the cosets of all cusps; the law CuspsOf. -/
import Derived.Test.YtjkemnnkgihefaaC99
namespace Go.Proofs.Ytjkemnnkgihefaa
open Go.RowKit
def idxTo (M : List Int) (c : Int) (i : Nat) : List Int := ((List.range i).filter fun j => M.getD j 0 == c).map fun j : Nat => (j : Int)
theorem idxTo_yes {M : List Int} {c : Int} {i : Nat} (h : M.getD i 0 = c) : idxTo M c (i + 1) = idxTo M c i ++ [(i : Int)] := by
  unfold idxTo
  rw [List.range_succ, List.filter_append, List.map_append]
  have : (List.filter (fun j => M.getD j 0 == c) [i]) = [i] := by rw [List.filter_cons_of_pos (by simpa using h)]; rfl
  rw [this]; rfl
theorem idxTo_no {M : List Int} {c : Int} {i : Nat} (h : M.getD i 0 ≠ c) : idxTo M c (i + 1) = idxTo M c i := by
  unfold idxTo
  rw [List.range_succ, List.filter_append, List.map_append]
  have : (List.filter (fun j => M.getD j 0 == c) [i]) = [] := by rw [List.filter_cons_of_neg (by simpa using h)]; rfl
  rw [this]; simp
theorem idxTo_len (M : List Int) (c : Int) (i : Nat) : (idxTo M c i).length ≤ i := by
  unfold idxTo
  rw [List.length_map]
  exact Nat.le_trans (List.length_filter_le _ _) (by simp)
theorem OwnsSS.base {w : World} {B B' n : Nat} {ES EI : TypeId} {v : Value} {inn : List Value} {len : Nat → Nat} {f : Nat → List Value} (h : OwnsSS w B ES EI v n inn len f) (hB : B' ≤ B) : OwnsSS w B' ES EI v n inn len f :=
  ⟨own_base h.out hB, fun i u hu => own_base (h.row i u hu) hB, h.apart⟩
theorem offs_le {xss : List (List Int)} {K : Nat} (h : ∀ i, (xss.getD i []).length ≤ K) : ∀ n, offs xss n ≤ n * K
  | 0 => by simp [offs]
  | n + 1 => by
    have := offs_le h n
    have := h n
    rw [Nat.succ_mul]
    show offs xss n + (xss.getD n []).length ≤ _
    omega
def cspRes (n : Int) : SSRes := if inB n 1 60 = true then ⟨cusL (cosP n), (cusL (cosP n)).length, 0⟩ else ⟨[], 0, 2⟩
theorem cusN_bd {N : Nat} (n0 : 0 < N) (n1 : N ≤ 60) : CusInv (cosP N) (cosP N).length (cusN (cosP N) (cosP N).length).1 (cusN (cosP N) (cosP N).length).2 ∧ (cosP N).length ≤ 3600 := by
  refine ⟨cusInv (cosP_in n0) _ (Nat.le_refl _), ?_⟩
  rw [cosP_len]; exact lineL_len (by omega)
theorem cspRes_n (n : Int) : (cspRes n).n ≤ 1000000 ∧ offs (cspRes n).xss (cspRes n).n ≤ 1000000000 := by
  unfold cspRes
  split
  · rename_i h
    rw [inB_iff] at h
    obtain ⟨N, rfl⟩ := Int.eq_ofNat_of_zero_le (show 0 ≤ n by omega)
    obtain ⟨hc, hl⟩ := cusN_bd (N := N) (by omega) (by omega)
    have h1 := hc.c1
    have h2 : (cusL (cosP N)).length ≤ 3600 := by unfold cusL; rw [rowsC_len]; omega
    have h3 := offs_le (xss := cusL (cosP N)) (K := 3600) (fun i => by
      unfold cusL
      by_cases hi : i < (cusN (cosP N) (cosP N).length).2.toNat
      · rw [rowsC_at hi]
        have := idxs_len (cusN (cosP N) (cosP N).length).1 i
        rw [hc.len] at this; omega
      · rw [List.getD_eq_getElem?_getD, List.getElem?_eq_none (by rw [rowsC_len]; omega)]; simp) (cusL (cosP N)).length
    have h4 := Nat.mul_le_mul_right 3600 h2
    exact ⟨by simp only; omega, by simp only; omega⟩
  · simp [offs]
set_option maxRecDepth 100000 in
set_option maxHeartbeats 1000000 in
theorem cusps_any (N : Nat) (w : World) (n0 : 0 < N) (n1 : N ≤ 60) :
    Calls Try.prog 31 #[(.int .i64 ((N : Int)))] w fun e w' => ∃ v inn, e = .returned v ∧ SS w' w.heap.size v (cusL (cosP N)).length inn (lenX (cusL (cosP N))) (intX (cusL (cosP N))) ∧ Below w.heap.size w w' := by
  have hl := (cusN_bd n0 n1).2
  have HM := Lib.hid (fun W => moved_any N 1 1 0 1 W n0 n1 ⟨by omega, by omega, by omega, by omega, by omega, by omega, by omega, by omega⟩)
  have HO := Lib.hid (fun A cap B W h => orbits_any A cap B (cosP N) W (cosP_in n0) (by omega) h)
  rw [show movedL (N : Int) (lineL N) 1 1 0 1 = cosP N from rfl] at HM
  generalize cosP (N : Int) = p at *
  go_enter Try.func31, Try.ntmps31
  go_wp2_with fail
  refine (HM.out _).mono ?_; rintro e w1 ⟨v, rfl, hown, hb1⟩
  obtain ⟨A, cap, rfl, -, -, hat⟩ := own_view hown
  have HA := Lib.hid hat
  clear hown hat
  go_wp2_with fail
  refine (HO.out _ _ _ _ HA.out).mono ?_; rintro e w2 ⟨v2, inn, rfl, hs2, hb2⟩
  have HS := Lib.hid (OwnsSS.base hs2 hb1.size)
  clear hs2
  go_wp2_with fail
  go_ret
  exact ⟨_, inn, rfl, HS.out, hb1.trans (hb2.mono hb1.size)⟩
theorem CuspsOf_any (n : Int) (w : World) :
    Calls Try.prog 9 #[(.int .i64 n)] w fun e w' => ∃ v inn, e = .returned (.tuple #[v, (.int .i64 ((cspRes n).c))]) ∧ SS w' w.heap.size v (cspRes n).n inn (lenX (cspRes n).xss) (intX (cspRes n).xss) ∧ Below w.heap.size w w' := by
  have H1 := Lib.hid (fun W => isLevel_any n W)
  cases hn : inB n 1 60
  · rw [show cspRes n = ⟨[], 0, 2⟩ by simp [cspRes, hn]]
    rw [hn] at H1
    go_enter Try.func9, Try.ntmps9
    go_wp2_with fail
    refine (H1.out _).mono ?_; rintro e w' ⟨rfl, rfl⟩
    go_wp2_with fail
    go_ret2
    exact ⟨_, [], rfl, OwnsSS.nil _ _ _ _ _ _, Below.refl _ _⟩
  · rw [show cspRes n = ⟨cusL (cosP n), (cusL (cosP n)).length, 0⟩ by simp [cspRes, hn]]
    rw [hn] at H1
    obtain ⟨n0, n1⟩ := inB_iff.1 hn
    clear hn
    obtain ⟨N, rfl⟩ := Int.eq_ofNat_of_zero_le (show 0 ≤ n by omega)
    have HC := Lib.hid (fun W => cusps_any N W (by omega) (by omega))
    generalize cusL (cosP (N : Int)) = X at *
    go_enter Try.func9, Try.ntmps9
    go_wp2_with fail
    refine (H1.out _).mono ?_; rintro e w' ⟨rfl, rfl⟩
    go_wp2_with fail
    refine (HC.out _).mono ?_; rintro e w1 ⟨v, inn, rfl, hs, hb1⟩
    have HS := Lib.hid hs
    clear hs
    go_wp2_with fail
    go_ret2
    exact ⟨_, inn, rfl, HS.out, hb1⟩
set_option maxRecDepth 100000 in
set_option maxHeartbeats 4000000 in
theorem sCuspsOf_any (n : Int) (w : World) :
    Calls Try.prog 10 #[(.int .i64 n)] w fun e w' => ∃ v inn, e = .returned (.tuple #[v, (.int .i64 ((cspRes n).c))]) ∧ SS w' w.heap.size v (cspRes n).n inn (lenX (cspRes n).xss) (intX (cspRes n).xss) ∧ Below w.heap.size w w' := by
  have H1 := Lib.hid (fun W => l01In_any n 1 60 W)
  cases hn : inB n 1 60
  · rw [show cspRes n = ⟨[], 0, 2⟩ by simp [cspRes, hn]]
    rw [hn] at H1
    go_enter Try.func10, Try.ntmps10
    go_wp2_with fail
    refine (H1.out _).mono ?_; rintro e w' ⟨rfl, rfl⟩
    go_wp2_with fail
    go_ret2
    exact ⟨_, [], rfl, OwnsSS.nil _ _ _ _ _ _, Below.refl _ _⟩
  · rw [show cspRes n = ⟨cusL (cosP n), (cusL (cosP n)).length, 0⟩ by simp [cspRes, hn]]
    rw [hn] at H1
    obtain ⟨n0, n1⟩ := inB_iff.1 hn
    clear hn
    obtain ⟨N, rfl⟩ := Int.eq_ofNat_of_zero_le (show 0 ≤ n by omega)
    obtain ⟨hc, hl⟩ := cusN_bd (N := N) (by omega) (by omega)
    have HL := Lib.hid (fun W => l06Line_any N W (by omega) (by omega))
    have HC := Lib.hid (fun v B inn W h => l06Cusps_any N v B inn W (by omega) (by omega) h)
    have hMl := hc.len
    have kc0 := hc.c0
    have kc1 := hc.c1
    have HLn := Lib.hid (cosP_len (N : Int))
    have HX := Lib.hid (show cusL (cosP N) = rowsC (cusN (cosP N) (cosP N).length).1 (cusN (cosP N) (cosP N).length).2.toNat from rfl)
    rw [HX.out, rowsC_len]
    clear hc HX
    rw [← HLn.out] at HC
    generalize (cusN (cosP (N : Int)) (cosP (N : Int)).length).2 = c at *
    generalize (cusN (cosP (N : Int)) (cosP (N : Int)).length).1 = M at *
    obtain ⟨C, rfl⟩ := Int.eq_ofNat_of_zero_le kc0
    rw [Int.toNat_natCast]
    generalize (cosP (N : Int)).length = len at *
    generalize lineL (N : Int) = L at *
    go_enter Try.func10, Try.ntmps10
    go_wp2_with fail
    refine (H1.out _).mono ?_; rintro e w' ⟨rfl, rfl⟩
    go_wp2_with fail
    refine (HL.out _).mono ?_; rintro e w1 ⟨v, inn0, rfl, hown, hb1⟩
    have HO := Lib.hid hown
    clear hown
    go_wp2_with fail
    refine (HC.out _ _ _ _ HO.out).mono ?_; rintro e w2 ⟨u, rfl, ho2, hb2⟩
    obtain ⟨A, cap, rfl, hcap, hmax, hat⟩ := own_view ho2
    unfold maxLen at hmax
    have HA := Lib.hid hat
    have hB2 : Below w.heap.size w w2 := hb1.trans (hb2.mono hb1.size)
    have hs2 := hB2.size
    clear ho2 hat hb1 hb2
    go_wp2_with fail
    go_loopw [7, 8] (fun v i wr => ∃ (k : Nat) (inn : List Value), i = (.int .i64 ((k : Int))) ∧ k ≤ C ∧ Hid (SS wr w2.heap.size v k inn (lenX (rowsC M k)) (intX (rowsC M k))) ∧ Below w2.heap.size w2 wr) (fun _ i _ => C - (intOf i).toNat)
    case atStart => exact ⟨0, [], rfl, Nat.zero_le _, Lib.hid (OwnsSS.lit0 w2 w2.heap.size 54 2 _ _ (Nat.le_refl _)), by go_grown⟩
    case round =>
      obtain ⟨k, inn, rfl, hk, HO, hb⟩ := hrel
      have hsz := hb.size
      by_cases hlt : k < C
      · have HUB := Lib.hid (underB_of HO.out)
        obtain ⟨wo, rfl⟩ : ∃ wo : World, wo = wr := ⟨_, rfl⟩
        have HO' := Lib.hid (HO.out.below (w' := wo.alloc (.cells #[] 2)) ((Below.refl _ _).alloc (Nat.le_refl _) _))
        have hb' := hb.alloc hsz (.cells #[] 2)
        go_wp2_with fail
        go_loopw [9, 10] (fun v i wr => ∃ j : Nat, i = (.int .i64 ((j : Int))) ∧ j ≤ len ∧ Hid (SS wr w2.heap.size u7 k inn (lenX (rowsC M k)) (intX (rowsC M k))) ∧ Hid (wr.ownsRow w2.heap.size 2 1 v (idxTo M k j).length (ints (idxTo M k j))) ∧ Hid (GeB wo.heap.size v) ∧ Below w2.heap.size w2 wr ∧ wo.heap.size ≤ wr.heap.size) (fun _ i _ => len - (intOf i).toNat)
        case atStart => exact ⟨0, rfl, Nat.zero_le _, HO', Lib.hid (World.ownsRow_lit wo #[] 0 hsz (by simp [maxLen]) rfl), Lib.hid ⟨fun k hk => by simp [Value.ownBlock] at hk; omega⟩, hb', by simp⟩
        case round =>
          obtain ⟨j, rfl, hj, HO, HB, HGe, hb, hwo⟩ := hrel
          have hsz := hb.size
          by_cases hlt2 : j < len
          · obtain ⟨b, rfl, -, hbl, hcc, -⟩ := (HA.out.below hb) (by omega)
            have g1 := hcc j _ (ints_at (by omega))
            have hil := idxTo_len M k j
            have HY := Lib.hid (fun h => @idxTo_yes M k j h)
            have HNo := Lib.hid (fun h => @idxTo_no M k j h)
            clear hcc
            generalize M.getD j 0 = x at *
            by_cases hx : x = (k : Int)
            · have HV := Lib.hid (HY.out hx)
              subst hx
              have hE : ((k : Int) == (k : Int)) = true := by simp
              go_wp2_with (at_builtin; refine app_one elI rfl _ _ rfl rfl rfl (by simp) (HB.out) (hb) rfl (by intro u hu; simp at hu; first | (subst hu; rfl) | (rcases hu with rfl | rfl <;> rfl) | (rcases hu with rfl | rfl | rfl <;> rfl) | (rcases hu with rfl | rfl | rfl | rfl <;> rfl)) (hsz) (by omega) ?_; intro v' w4 hown4 hb4 hg4; have HO4 := Lib.hid hown4; clear hown4; have hg4' := Lib.hid hg4 ; clear hg4)
              go_roundw
              case rel => exact ⟨j + 1, by go_num, by omega, Lib.hid (HO.out.far HUB.out hg4'.out.grown (fun b e => HGe.out.out b e)), Lib.hid (by rw [HV.out]; simpa [ints] using HO4.out), Lib.hid (HGe.out.app hg4'.out hwo), hb4, Nat.le_trans hwo hg4'.out.grown.size⟩
              case measure => simp [intOf]; omega
            · have HV := Lib.hid (HNo.out hx)
              have hE : (x == (k : Int)) = false := by simpa using hx
              clear hx
              go_wp2_with fail
              go_roundw
              case rel => exact ⟨j + 1, by go_num, by omega, HO, Lib.hid (by rw [HV.out]; exact HB.out), HGe, hb, hwo⟩
              case measure => simp [intOf]; omega
          · obtain rfl : j = len := by omega
            have HIx := Lib.hid (show idxTo M k j = idxs M k by unfold idxTo idxs; rw [hMl])
            have hil := idxTo_len M k j
            obtain ⟨A6, cap6, rfl, hcap6, hmax6, -⟩ := own_view HB.out
            unfold maxLen at hmax6
            have HU5 := Lib.hid (fun (i : Nat) (u' : Value) (b : Nat) (h1 : inn[i]? = some u') (h2 : u'.ownBlock = some b) => show (Value.slice A6 (idxTo M k j).length cap6).ownBlock ≠ some b from fun e => by have := HGe.out.out b e; have := HUB.out.i i u' b h1 h2; omega)
            have HB' := Lib.hid (show wr.ownsRow w2.heap.size 2 1 (.slice A6 (idxTo M k j).length cap6) (idxs M k).length (ints (idxs M k)) by rw [← HIx.out]; exact HB.out)
            generalize (idxTo M k j).length = il at *
            have HRow := Lib.hid (show rowsC M (k + 1) = rowsC M k ++ [idxs M k] from rfl)
            go_wp2_with (at_builtin; refine app_one elS rfl _ _ rfl rfl rfl (by simp) (HO.out.out) (hb) rfl (by intro u hu; simp at hu; first | (subst hu; rfl) | (rcases hu with rfl | rfl <;> rfl) | (rcases hu with rfl | rfl | rfl <;> rfl) | (rcases hu with rfl | rfl | rfl | rfl <;> rfl)) (hsz) (by omega) ?_; intro v' w6 hown6 hb6 hg6; have HO6 := Lib.hid hown6; clear hown6)
            have HP6 := Lib.hid (SS.push2 (ys := idxs M k) (rowsC_len M k) HO.out HB'.out HU5.out HO6.out hg6.grown)
            clear hg6
            go_wp2_with fail
            go_roundw
            case rel => exact ⟨k + 1, inn ++ [.slice A6 il cap6], by go_num, by omega, Lib.hid (by rw [HRow.out]; exact HP6.out), hb6⟩
            case measure => simp [intOf]; omega
      · obtain rfl : k = C := by omega
        go_wp2_with fail
        go_ret2
        exact ⟨_, inn, rfl, OwnsSS.base HO.out hs2, hB2.trans (hb.mono hs2)⟩
end Go.Proofs.Ytjkemnnkgihefaa
