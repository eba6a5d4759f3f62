/- Contracts: class numbers, as the program counts them. -/
import Derived.Test.YtcaiofhdcffogaaC114
namespace Go.Proofs.Ytcaiofhdcffogaa
open Go.RowKit Go.Maps
theorem flatF_atC {l : List F3} {k : Nat} (h : k < l.length) : (ints (flatF l))[k * 3]? = some (.int .i64 l[k].x) ∧ (ints (flatF l))[k * 3 + 1]? = some (.int .i64 l[k].y) ∧ (ints (flatF l))[k * 3 + 2]? = some (.int .i64 l[k].z) := by
  induction l generalizing k with
  | nil => simp at h
  | cons p l ih =>
    cases k with
    | zero => simp [flatF, ints]
    | succ k =>
      have := ih (k := k) (by simpa using h)
      have e : ints (flatF (p :: l)) = .int .i64 p.x :: .int .i64 p.y :: .int .i64 p.z :: ints (flatF l) := by simp [flatF, ints]
      rw [e, show (k + 1) * 3 = k * 3 + 1 + 1 + 1 by omega]
      simp only [List.getElem?_cons_succ, List.getElem_cons_succ]
      exact this
theorem told_pos {d : Int} (h : toldB d = true) (h0 : ¬ d < 0) : 0 < d ∧ d ≤ 2000 ∧ sqB d = false := by
  simp [toldB, inB] at h
  have hs : sqB d = false := by
    rcases h.2.2 with h1 | h1
    · omega
    · exact h1
  refine ⟨?_, by omega, hs⟩
  rcases (show d = 0 ∨ 0 < d by omega) with e | e
  · subst e; exact absurd hs (by decide)
  · exact e
theorem told_bd2 {d : Int} (h : toldB d = true) : -2000 ≤ d ∧ d ≤ 2000 := by
  simp [toldB, inB] at h; omega
theorem mkM (W : World) : (Instr.makeMap 55 none).run Try.prog W = .ok (.map (some W.heap.size)) (W.alloc (.map #[] 0)) := rfl
theorem wf_small {x : Int} (h0 : -9000000000000000000 ≤ x) (h1 : x ≤ 9000000000000000000) : (Lit.int .i64 x).wf = true := by
  simp [Lit.wf, IntKind.min, IntKind.max, IntKind.signed, IntKind.bits]
  omega
theorem IsCyc.wf3 {f : F3} (h : IsCyc f) : Wf3 f := by
  obtain ⟨a0, a1, b0, b1, c0, c1⟩ := (h.all 0).sm
  have e : itN f 0 = f := rfl
  rw [e] at a0 a1 b0 b1 c0 c1
  exact ⟨wf_small (by omega) (by omega), wf_small (by omega) (by omega), wf_small (by omega) (by omega)⟩
/-- A row is known behind growth elsewhere. -/
theorem RowAt.grownV {w w' : World} {B n : Nat} {A : Option Addr} {xs : List Value} {row : Option Nat} (h : RowAt w B A n xs) (hg : w.grownBy w' row) (hne : ∀ b, A = some ⟨b, 0, none⟩ → row ≠ some b) : RowAt w' B A n xs := fun hn => by
  obtain ⟨b, hA, hB, hlt, hc, hf⟩ := h hn
  have e := hg.block b hlt (fun e => hne b hA e.symm)
  exact ⟨b, hA, hB, Nat.lt_of_lt_of_le hlt hg.size, fun j u hu => (World.cell?_of_block (a := ⟨b, j, none⟩) e).trans (hc j u hu), fun j => (World.frozen?_of_block (a := ⟨b, j, none⟩) e).trans (hf j)⟩
theorem cycL_at {f : F3} {N j : Nat} (h : j < (cycL f N).length) : (cycL f N)[j] = itN f j := by simp [cycL]
set_option maxRecDepth 100000 in
set_option maxHeartbeats 4000000 in
theorem ClassNumber_any (d : Int) (w : World) :
    Calls Try.prog 6 #[(.int .i64 d)] w fun e w' => e = .returned (.tuple #[(.int .i64 ((clsRes d).1)), (.int .i64 ((clsRes d).2))]) ∧ Below w.heap.size w w' := by
  have H1 := Lib.hid (fun W => isDisc_any d W)
  cases ht : toldB d
  · rw [show clsRes d = (0, 2) by simp [clsRes, ht]]
    rw [ht] at H1
    go_enter Try.func6, Try.ntmps6
    go_wp2_with fail
    refine (H1.out _).mono ?_; rintro e w' ⟨rfl, rfl⟩
    go_wp2_with fail
    go_ret2
    exact ⟨rfl, Below.refl _ _⟩
  rw [ht] at H1
  have HFo := Lib.hid (fun W => formsOf_any d W (told_bd2 ht))
  have hlen := fall_len d 101
  by_cases h0 : d < 0
  · rw [show clsRes d = ((((fall d 101).length : Nat) : Int), 0) by simp [clsRes, ht, h0]]
    clear ht
    generalize fall d 101 = L at *
    go_enter Try.func6, Try.ntmps6
    go_wp2_with fail
    refine (H1.out _).mono ?_; rintro e w' ⟨rfl, rfl⟩
    go_wp2_with fail
    refine (HFo.out _).mono ?_; rintro e w1 ⟨v, rfl, hown, hb1⟩
    obtain ⟨A, cap, rfl, -, -, -⟩ := own_view hown
    clear hown
    go_wp2_with fail
    go_ret2
    exact ⟨rfl, hb1⟩
  obtain ⟨d0, d1, hsq⟩ := told_pos ht h0
  rw [show clsRes d = ((clsN (fall d 101) (fall d 101).length).2, 0) by simp [clsRes, ht, h0]]
  have HCy := Lib.hid (fun k (h : k < (fall d 101).length) => fall_isCyc d0 d1 hsq (List.getElem_mem h))
  clear ht hsq
  generalize fall d 101 = L at *
  have HIn := Lib.hid (fun i h => @clsN_in L i h)
  have HOut := Lib.hid (fun i h => @clsN_out L i h)
  have HBd := Lib.hid (fun i => clsN_bd L i)
  have H00 := Lib.hid (show clsN L 0 = ([], 0) from rfl)
  generalize clsN L = cl at *
  go_enter Try.func6, Try.ntmps6
  go_wp2_with fail
  refine (H1.out _).mono ?_; rintro e w' ⟨rfl, rfl⟩
  go_wp2_with fail
  refine (HFo.out _).mono ?_; rintro e w1 ⟨v, rfl, hown, hb1⟩
  obtain ⟨A, cap, rfl, hcap, hmax, hat⟩ := own_view hown
  unfold maxLen at hmax
  have HA := Lib.hid hat
  clear hown hat
  have hmk := mkM
  go_wp2_with fail
  go_loopw [5, 23] (fun x i wr => ∃ (k n : Nat) (D : DataW Unit), x = (.int .i64 ((cl k).2)) ∧ i = (.int .i64 ((k : Int))) ∧ k ≤ L.length ∧ n ≤ k * 10000 ∧ Hid (OMap wr w1.heap.size n D) ∧ Hid (Met D (cl k).1) ∧ Below w1.heap.size w1 wr) (fun _ i _ => L.length - (intOf i).toNat)
  case atStart => exact ⟨0, 0, .map [], by rw [H00.out], rfl, Nat.zero_le _, by omega, Lib.hid (World.ownsMap_made w1 Try.prog 34 RB), Lib.hid (by rw [H00.out]; exact met_none), by go_grown⟩
  case round =>
    obtain ⟨k, n, D, rfl, rfl, hk, hn, HM, HD, hb⟩ := hrel
    have hsz := hb.size
    obtain ⟨q0, q1, -⟩ := HBd.out k
    by_cases hlt : k < L.length
    · obtain ⟨b, rfl, -, hbl, hc, -⟩ := (HA.out.below hb) (by omega)
      obtain ⟨hx, hy, hz⟩ := flatF_atC hlt
      have h1 := hc _ _ hx
      have h2 := hc _ _ hy
      have h3 := hc _ _ hz
      have HCk := Lib.hid (HCy.out k hlt)
      have hgk : L.getD k ⟨0, 0, 0⟩ = L[k] := by rw [List.getD_eq_getElem?_getD, List.getElem?_eq_getElem hlt]; rfl
      have HIk := Lib.hid (HIn.out k)
      have HOk := Lib.hid (HOut.out k)
      rw [hgk] at HIk HOk
      clear hc hx hy hz hgk
      generalize L[k] = f at *
      have HWf := Lib.hid HCk.out.wf3
      by_cases hin : f ∈ (cl k).1
      · have HE := Lib.hid (HIk.out hin)
        go_wp2_with (at_lookup; refine wpList_lookup_met rfl _ _ rfl w1.heap.size n D _ rfl (HM.out.alloc _) HD.out f HWf.out rfl ?_; rw [decide_eq_true hin])
        go_wp2_with fail
        go_roundw
        case rel => exact ⟨k + 1, n, D, by rw [HE.out], by go_num, by omega, by omega, Lib.hid (HM.out.alloc _), Lib.hid (by rw [HE.out]; exact HD.out), hb.alloc hsz _⟩
        case measure => simp [intOf]; omega
      · have HE := Lib.hid (HOk.out hin)
        obtain ⟨N, hP⟩ := HCk.out.period
        have hN := hP.n2
        have HCR := Lib.hid (cycR_eq hP)
        have HCl := Lib.hid (cycL_len f N)
        have HC := Lib.hid (fun W => cycle_any f N W HCk.out hP)
        clear hP
        go_wp2_with (at_lookup; refine wpList_lookup_met rfl _ _ rfl w1.heap.size n D _ rfl (HM.out.alloc _) HD.out f HWf.out rfl ?_; rw [decide_eq_false hin])
        go_wp2_with fail
        with_reducible refine (HC.out _).mono ?_; rintro e w5 ⟨v5, rfl, ho5, hb5⟩
        obtain ⟨A5, cap5, rfl, hcap5, hmax5, hat5⟩ := own_view ho5
        unfold maxLen at hmax5
        have HA5 := Lib.hid hat5
        clear ho5 hat5
        have hBA := hb.alloc hsz (.cells #[(.int .i64 f.x), (.int .i64 f.y), (.int .i64 f.z)] 34)
        have HM5 := Lib.hid ((HM.out.alloc (.cells #[(.int .i64 f.x), (.int .i64 f.y), (.int .i64 f.z)] 34)).kept (row := none) (grown_of_below hb5) (by simp))
        have hB5 := hBA.trans (hb5.mono hBA.size)
        have hmb := HM.out.lt
        go_wp2_with fail
        go_loopw [35] (fun i wr => ∃ (j m : Nat) (E : DataW Unit), i = (.int .i64 ((j : Int))) ∧ j ≤ N ∧ m ≤ n + j ∧ Hid (OMap wr w1.heap.size m E) ∧ Hid (Met E ((cl k).1 ++ cycL f j)) ∧ Hid (w5.grownBy wr (some w1.heap.size)) ∧ Below w1.heap.size w1 wr) (fun i _ => N - (intOf i).toNat)
        case atStart => exact ⟨0, n, D, rfl, Nat.zero_le _, by omega, HM5, Lib.hid (by rw [show (cl k).1 ++ cycL f 0 = (cl k).1 from List.append_nil _]; exact HD.out), Lib.hid (grown_refl' _ _), hB5⟩
        case round =>
          obtain ⟨j, m, E, rfl, hj, hm, HMj, HDj, HG, hbj⟩ := hrel
          have hszj := hbj.size
          by_cases hlt2 : j < N
          · have HA6 := Lib.hid (HA5.out.grownV HG.out (fun b hb e => by
              obtain ⟨b', hb', hB', -, -, -⟩ := HA5.out (by omega)
              rw [hb'] at hb; injection hb with e1; injection e1 with e1; injection e with e2
              simp at hB'; omega))
            obtain ⟨b6, rfl, -, hbl6, hc6, -⟩ := HA6.out (by omega)
            obtain ⟨hx, hy, hz⟩ := flatF_atC (l := cycL f N) (k := j) (by rw [HCl.out]; exact hlt2)
            rw [cycL_at] at hx hy hz
            have p1 := hc6 _ _ hx
            have p2 := hc6 _ _ hy
            have p3 := hc6 _ _ hz
            have HW6 := Lib.hid (HCk.out.it j).wf3
            have HSn := Lib.hid (show (cl k).1 ++ cycL f (j + 1) = ((cl k).1 ++ cycL f j) ++ [itN f j] by rw [cycL_snoc, List.append_assoc])
            clear hc6 hx hy hz
            generalize itN f j = g at *
            go_wp2_with (at_mapUpdate; refine wpList_update_met rfl _ _ _ rfl w1.heap.size m E _ rfl (HMj.out.alloc _) HDj.out (by unfold maxLen; omega) g HW6.out rfl rfl ?_; intro w7 E7 hM7 hD7 hg7; have HM7 := Lib.hid hM7; have HD7 := Lib.hid hD7; have HG7 := Lib.hid hg7; clear hM7 hD7 hg7)
            go_wp2_with fail
            go_roundw
            case rel => exact ⟨j + 1, m + 1, E7, by go_num, by omega, by omega, HM7, Lib.hid (by rw [HSn.out]; exact HD7.out), Lib.hid (grown_trans' (grown_trans' HG.out (World.grownBy_alloc _ _ _)) HG7.out), (hbj.alloc hszj _).grown HG7.out (by simp; omega) (fun q hq => by injection hq with hq; omega)⟩
            case measure => simp [intOf]; omega
          · obtain rfl : j = N := by omega
            go_wp2_with fail
            go_roundw
            case rel => exact ⟨k + 1, m, E, by rw [HE.out], by go_num, by omega, by omega, HMj, Lib.hid (by rw [HE.out, HCR.out]; exact HDj.out), hbj⟩
            case measure => simp [intOf]; omega
    · obtain rfl : k = L.length := by omega
      go_wp2_with fail
      go_ret2
      exact ⟨rfl, hb1.trans (hb.mono hb1.size)⟩
end Go.Proofs.Ytcaiofhdcffogaa
