/- Contracts: class numbers, as the model counts them; the law ClassNumber. -/
import Derived.Test.YtcaiofhdcffogaaC115
import Derived.Test.YtcaiofhdcffogaaC91A
namespace Go.Proofs.Ytcaiofhdcffogaa
open Go.RowKit
attribute [local go_sem] eqForm3
theorem mem_take_succ {f : F3} {S : List F3} {j : Nat} (h : j < S.length) : decide (f ∈ S.take (j + 1)) = (decide (f ∈ S.take j) || decide (S[j] = f)) := by
  have e : f ∈ S.take (j + 1) ↔ f ∈ S.take j ∨ S[j] = f := by rw [List.take_succ_eq_append_getElem h, List.mem_append, List.mem_singleton, eq_comm (a := f)]
  rw [Bool.eq_iff_iff, Bool.or_eq_true, decide_eq_true_eq, decide_eq_true_eq, decide_eq_true_eq]
  exact e
theorem flatF_appC (l m : List F3) : flatF (l ++ m) = flatF l ++ flatF m := by
  induction l with
  | nil => rfl
  | cons x l ih => simp [flatF] at ih ⊢; try exact ih
theorem ints_appC (l m : List Int) : ints (l ++ m) = ints l ++ ints m := by simp [ints]
set_option maxRecDepth 100000 in
set_option maxHeartbeats 4000000 in
theorem sClassNumber_any (d : Int) (w : World) :
    Calls Try.prog 7 #[(.int .i64 d)] w fun e w' => e = .returned (.tuple #[(.int .i64 ((clsRes d).1)), (.int .i64 ((clsRes d).2))]) ∧ Below w.heap.size w w' := by
  have H1 := Lib.hid (fun W => l05Told_any d W)
  cases ht : toldB d
  · rw [show clsRes d = (0, 2) by simp [clsRes, ht]]
    rw [ht] at H1
    go_enter Try.func7, Try.ntmps7
    go_wp2_with fail
    refine (H1.out _).mono ?_; rintro e w' ⟨rfl, rfl⟩
    go_wp2_with fail
    go_ret2
    exact ⟨rfl, Below.refl _ _⟩
  rw [ht] at H1
  have hdz : d ≠ 0 := fun e => by subst e; exact absurd ht (by decide)
  have HFo := Lib.hid (fun W => l05All_any d W (told_bd2 ht) hdz)
  have hlen := fall_len d 101
  by_cases h0 : d < 0
  · rw [show clsRes d = ((((fall d 101).length : Nat) : Int), 0) by simp [clsRes, ht, h0]]
    clear ht
    generalize fall d 101 = L at *
    go_enter Try.func7, Try.ntmps7
    go_wp2_with fail
    refine (H1.out _).mono ?_; rintro e w' ⟨rfl, rfl⟩
    go_wp2_with fail
    refine (HFo.out _).mono ?_; rintro e w1 ⟨v, rfl, hown, hb1⟩
    obtain ⟨A, cap, rfl, -, -, -⟩ := own_view hown
    clear hown
    go_wp2_with fail
    go_ret2
    exact ⟨rfl, hb1⟩
  obtain ⟨d0, d1, hsq⟩ := told_pos ht h0
  rw [show clsRes d = ((clsN (fall d 101) (fall d 101).length).2, 0) by simp [clsRes, ht, h0]]
  have HCy := Lib.hid (fun k (h : k < (fall d 101).length) => fall_isCyc d0 d1 hsq (List.getElem_mem h))
  clear ht hsq
  generalize fall d 101 = L at *
  have HIn := Lib.hid (fun i h => @clsN_in L i h)
  have HOut := Lib.hid (fun i h => @clsN_out L i h)
  have HBd := Lib.hid (fun i => clsN_bd L i)
  have H00 := Lib.hid (show clsN L 0 = ([], 0) from rfl)
  generalize clsN L = cl at *
  go_enter Try.func7, Try.ntmps7
  go_wp2_with fail
  refine (H1.out _).mono ?_; rintro e w' ⟨rfl, rfl⟩
  go_wp2_with fail
  refine (HFo.out _).mono ?_; rintro e w1 ⟨v, rfl, hown, hb1⟩
  obtain ⟨A, cap, rfl, hcap, hmax, hat⟩ := own_view hown
  unfold maxLen at hmax
  have HA := Lib.hid hat
  clear hown hat
  go_wp2_with fail
  go_loopw [5, 6, 7] (fun x v i wr => ∃ k : Nat, x = (.int .i64 ((cl k).2)) ∧ i = (.int .i64 ((k : Int))) ∧ k ≤ L.length ∧ Hid (wr.ownsRow w1.heap.size 34 3 v (cl k).1.length (ints (flatF (cl k).1))) ∧ Below w1.heap.size w1 wr) (fun _ _ i _ => L.length - (intOf i).toNat)
  case atStart => exact ⟨0, by rw [H00.out], rfl, Nat.zero_le _, Lib.hid (by rw [H00.out]; exact World.ownsRow_lit w1 #[] 0 (Nat.le_refl _) (by simp [maxLen]) rfl), by go_grown⟩
  case round =>
    obtain ⟨k, rfl, rfl, hk, HO, hb⟩ := hrel
    have hsz := hb.size
    obtain ⟨q0, q1, hcl⟩ := HBd.out k
    by_cases hlt : k < L.length
    · obtain ⟨b, rfl, -, hbl, hc, -⟩ := (HA.out.below hb) (by omega)
      obtain ⟨hx, hy, hz⟩ := flatF_atC hlt
      have h1 := hc _ _ hx
      have h2 := hc _ _ hy
      have h3 := hc _ _ hz
      have HCk := Lib.hid (HCy.out k hlt)
      have hgk : L.getD k ⟨0, 0, 0⟩ = L[k] := by rw [List.getD_eq_getElem?_getD, List.getElem?_eq_getElem hlt]; rfl
      have HIk := Lib.hid (HIn.out k)
      have HOk := Lib.hid (HOut.out k)
      rw [hgk] at HIk HOk
      clear hc hx hy hz hgk
      generalize L[k] = f at *
      obtain ⟨A2, cap2, rfl, hcap2, hmax2, hat2⟩ := own_view HO.out
      unfold maxLen at hmax2
      have HA2 := Lib.hid hat2
      clear hat2
      generalize hS : (cl k).1 = S at *
      obtain ⟨Y, hY⟩ : ∃ Y, (cl k).2 = Y := ⟨_, rfl⟩
      go_wp2_with fail
      go_loopw [8, 9] (fun x i wr' => ∃ j : Nat, x = .bool (decide (f ∈ S.take j)) ∧ i = (.int .i64 ((j : Int))) ∧ j ≤ S.length ∧ Below wr.heap.size wr wr') (fun _ i _ => S.length - (intOf i).toNat)
      case atStart => exact ⟨0, by simp, rfl, Nat.zero_le _, Below.refl _ _⟩
      case round =>
        obtain ⟨j, rfl, rfl, hj, hbj⟩ := hrel
        by_cases hlt2 : j < S.length
        · have HM := Lib.hid (mem_take_succ (f := f) hlt2)
          obtain ⟨b2, rfl, -, hbl2, hc2, -⟩ := (HA2.out.below hbj) (by omega)
          obtain ⟨hx, hy, hz⟩ := flatF_atC hlt2
          have p1 := hc2 _ _ hx
          have p2 := hc2 _ _ hy
          have p3 := hc2 _ _ hz
          have c1 := (hbj.cell (p := ⟨b, k * 3, none⟩) hbl).trans h1
          have c2 := (hbj.cell (p := ⟨b, k * 3 + 1, none⟩) hbl).trans h2
          have c3 := (hbj.cell (p := ⟨b, k * 3 + 2, none⟩) hbl).trans h3
          have HQ := Lib.hid (@eqF S[j] f)
          clear hc2 hx hy hz
          generalize S[j] = g at *
          generalize decide (f ∈ S.take j) = kn at *
          cases kn
          · by_cases he : g = f
            · have hE : (g.x == f.x && (g.y == f.y && g.z == f.z)) = true := by rw [HQ.out]; simp [he]
              have HE2 := Lib.hid he
              clear he
              go_wp2_with fail
              go_quiet (fail)
              go_wp2_with fail
              go_roundw
              case rel => exact ⟨j + 1, by rw [HM.out]; simp [HE2.out], by go_num, by omega, below_drewN hbj _⟩
              case measure => simp [intOf]; omega
            · have hE : (g.x == f.x && (g.y == f.y && g.z == f.z)) = false := by rw [HQ.out]; simp [he]
              have HE2 := Lib.hid he
              clear he
              go_wp2_with fail
              go_quiet (fail)
              go_wp2_with fail
              go_roundw
              case rel => exact ⟨j + 1, by rw [HM.out]; simp [HE2.out], by go_num, by omega, below_drewN hbj _⟩
              case measure => simp [intOf]; omega
          · have HE2 := Lib.hid (show True from trivial)
            clear HQ
            go_wp2_with fail
            go_quiet (fail)
            go_wp2_with fail
            go_roundw
            case rel => exact ⟨j + 1, by rw [HM.out]; simp, by go_num, by omega, below_drewN hbj _⟩
            case measure => simp [intOf]; omega
        · obtain rfl : j = S.length := by omega
          rw [List.take_length]
          have c1 := (hbj.cell (p := ⟨b, k * 3, none⟩) hbl).trans h1
          have c2 := (hbj.cell (p := ⟨b, k * 3 + 1, none⟩) hbl).trans h2
          have c3 := (hbj.cell (p := ⟨b, k * 3 + 2, none⟩) hbl).trans h3
          have HO5 := Lib.hid (own_below HO.out hbj)
          have hB5 := hb.trans (hbj.mono hsz)
          have hs5 := hB5.size
          by_cases hin : f ∈ S
          · have HE := Lib.hid (HIk.out hin)
            rw [decide_eq_true hin]
            clear hin
            go_wp2_with fail
            go_roundw
            case rel => exact ⟨k + 1, by rw [HE.out], by go_num, by omega, Lib.hid (by rw [HE.out, hS]; exact HO5.out), hB5⟩
            case measure => simp [intOf]; omega
          · have HE := Lib.hid (HOk.out hin)
            rw [decide_eq_false hin]
            clear hin
            obtain ⟨N, hP⟩ := HCk.out.period
            have hN := hP.n2
            have hN1 := hP.n1
            have HCR := Lib.hid (cycR_eq hP)
            have HCl := Lib.hid (cycL_len f N)
            have HC := Lib.hid (fun W => l05Cycle_any f N W HCk.out hP)
            clear hP
            go_wp2_with fail
            with_reducible refine (HC.out _).mono ?_; rintro e w6 ⟨v6, rfl, ho6, hb6⟩
            obtain ⟨A6, cap6, rfl, hcap6, hmax6, hat6⟩ := own_view ho6
            obtain ⟨b6, rfl, -, -, hc6, -⟩ := hat6 (by omega)
            have HC6 := Lib.hid hc6
            have HO6 := Lib.hid (own_below HO5.out hb6)
            have hB6 := hB5.trans (hb6.mono hs5)
            have hs6 := hB6.size
            have HFl := Lib.hid (show (ints (flatF (cycL f N))).length = N * 3 by rw [ints_len, flatF_len, HCl.out])
            clear hat6 hc6 ho6
            go_wp2_with (at_builtin; refine app_all elF rfl _ _ rfl rfl rfl HO6.out hB6 HFl.out HC6.out (ints_one _) hs6 (by omega) ?_; intro v' w7 hown7 hb7 hg7; have HO7 := Lib.hid hown7; clear hown7 hg7)
            go_wp2_with fail
            go_roundw
            case rel => exact ⟨k + 1, by rw [HE.out, hY], by go_num, by omega, Lib.hid (by rw [HE.out, HCR.out, List.length_append, HCl.out, flatF_appC, ints_appC]; exact HO7.out), hb7⟩
            case measure => simp [intOf]; omega
    · obtain rfl : k = L.length := by omega
      go_wp2_with fail
      go_ret2
      exact ⟨rfl, hb1.trans (hb.mono hb1.size)⟩
end Go.Proofs.Ytcaiofhdcffogaa
