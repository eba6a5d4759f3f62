/- Contracts: mixes of fractions, the model's own; the law MixOfFraction (written by gen_c96.py). -/
import Derived.Test.YtjgnhnbhcnfdbaaC96
namespace Go.Proofs.Ytjgnhnbhcnfdbaa
open Go.RowKit
theorem OwnsSS.grown {w w' : World} {B n : Nat} {ES EI : TypeId} {v : Value} {inn : List Value} {len : Nat → Nat} {f : Nat → List Value} {row : Option Nat} (h : OwnsSS w B ES EI v n inn len f) (hg : w.grownBy w' row) (hne : ∀ k, row = some k → w.heap.size ≤ k) : OwnsSS w' B ES EI v n inn len f := by
  have key : ∀ {B' z n' : Nat} {E : TypeId} {u : Value} {xs : List Value}, w.ownsRow B' E z u n' xs → w'.ownsRow B' E z u n' xs := fun {B' z n' E u xs} ho => by
    refine ho.kept hg ?_
    cases hu : u.ownBlock with
    | none => exact .inl rfl
    | some k => exact .inr fun e => by have := hne k e.symm; have := own_lt ho hu; omega
  exact ⟨key h.out, fun i u hu => key (h.row i u hu), h.apart⟩
set_option maxRecDepth 100000 in
set_option maxHeartbeats 4000000 in
theorem sMixOfFraction_any (n P Q : Int) (w : World) :
    Calls Try.prog 30 #[(.int .i64 n), (.agg #[.int .i64 P, .int .i64 Q])] w fun e w' => ∃ v, e = .returned (.tuple #[v, (.int .i64 ((mixRes n P Q).c))]) ∧ w'.ownsRow w.heap.size 2 1 v (mixRes n P Q).xs.length (ints (mixRes n P Q).xs) ∧ Below w.heap.size w w' := by
  have HF := Lib.hid (fun W => l01Fraction_any P Q W)
  have HC := Lib.hid (fun W => l08Code_any n W)
  cases hf : isFrac P Q
  · rw [show mixRes n P Q = ⟨[], 1⟩ by simp [mixRes, hf]]
    rw [hf] at HF
    go_enter Try.func30, Try.ntmps30
    go_wp2_with fail
    refine (HF.out _).mono ?_; rintro e w1 ⟨rfl, hb1⟩
    obtain ⟨hc1, hf1⟩ := bcell hb1
    have hB1 : Below w.heap.size w w1 := bfin (by go_grown) hb1
    go_wp2_with fail
    go_ret2
    exact ⟨_, rfl, World.ownsRow_nil _ _ _ _, by go_grown⟩
  rw [hf] at HF
  by_cases hl : lcode n = 0
  · rw [show mixRes n P Q = ⟨mixL n (lineL n) (chainL P Q) ((chainL P Q).length - 1), 0⟩ by simp [mixRes, hf, hl]]
    obtain ⟨n0, n1, hl72⟩ := lcode_zero hl
    rw [hl] at HC
    clear hl
    obtain ⟨N, rfl⟩ := Int.eq_ofNat_of_zero_le (show 0 ≤ n by omega)
    have HL := Lib.hid (fun W => l06Line_any N W (by omega) (by omega))
    have HCh := Lib.hid (fun W => l08Chain_any P Q W hf)
    have hcl : (chainL P Q).length ≤ 61 ∧ 1 ≤ (chainL P Q).length := by
      have h1 := chainL_len P Q
      obtain ⟨-, hQ, -, -⟩ := isFrac_iff.1 hf
      have := cfrac_len (p := P) hQ.1 hQ.2
      omega
    obtain ⟨kc1, kc2⟩ := hcl
    have HB := Lib.hid (chain_bd hf)
    have HI := Lib.hid (fun k hk => mixI_in (N := N) (P := P) (Q := Q) (k := k) (by omega) hk)
    have HFl := Lib.hid (fun k hk => @flat2_getD (chainL P Q) k hk)
    have HX := Lib.hid (fun k i h => @mixL_next N (lineL N) (chainL P Q) k i h)
    have HLn := Lib.hid (mixL_len N (lineL N) (chainL P Q))
    have HBd := Lib.hid (mixL_bd N (lineL N) (chainL P Q))
    have H0 := Lib.hid (show (zs64 (lineL N).length).toList = ints (mixL N (lineL N) (chainL P Q) 0) from zs64_list _)
    have HCo := Lib.hid (fun v B inn c d W hp h => l06Number_any N v B (lineL N) inn c d W (by omega) (by omega) (by omega) hp h)
    simp only [mixI] at HI HX
    have hmk := mk64 (lineL (N : Int)).length (by omega)
    generalize hMM : mixL (N : Int) (lineL N) (chainL P Q) = M at *
    clear hMM
    generalize chainL P Q = C at *
    generalize lineL (N : Int) = L at *
    go_enter Try.func30, Try.ntmps30
    go_wp2_with fail
    refine (HF.out _).mono ?_; rintro e w1 ⟨rfl, hb1⟩
    obtain ⟨hc1, hf1⟩ := bcell hb1
    have hz0 : w.heap.size < w1.heap.size := by have := hb1.size; (try simp at this); omega
    go_wp2_with fail
    refine (HC.out _).mono ?_; rintro e w2 ⟨rfl, hb2⟩
    replace hb2 := bstep hb1 hb2
    clear hc1 hf1 hb1
    obtain ⟨hc2, hf2⟩ := bcell hb2
    have hz0 : w.heap.size < w2.heap.size := by have := hb2.size; (try simp at this); omega
    go_wp2_with fail
    have hB2 : Below w.heap.size w w2 := bfin (by go_grown) hb2
    have s0 : w2.cell? ⟨w.heap.size, 0, none⟩ = some (.int .i64 P) := by rw [hc2 _ _ (by simp)]; go_simp
    have s1 : w2.cell? ⟨w.heap.size, 1, none⟩ = some (.int .i64 Q) := by rw [hc2 _ _ (by simp)]; go_simp
    clear hc2 hf2
    go_region_held3 (fun w' => w'.cell? ⟨w.heap.size, 0, none⟩ = some (.int .i64 P) ∧ w'.cell? ⟨w.heap.size, 1, none⟩ = some (.int .i64 Q)) (first | exact ⟨qL0, qL1⟩ | exact ⟨qC0, qC1⟩ | go_keep) (first | (go_at_call 72; refine (HL.out _).mono ?_; rintro e wL ⟨vL, inn, rfl, hownL, hbL⟩; obtain ⟨hcL, -⟩ := bcell hbL; (first | (have qL0 := (hcL _ _ (by simpa using hz0)).trans s0; have qL1 := (hcL _ _ (by simpa using hz0)).trans s1) | (have qL0 := (hcL _ _ (Nat.lt_of_lt_of_le hz0 BC.out.size)).trans qC0; have qL1 := (hcL _ _ (Nat.lt_of_lt_of_le hz0 BC.out.size)).trans qC1)); clear hcL; obtain ⟨A, cap, rfl, hcap, hmax, -⟩ := own_view hownL.out; have RL := Lib.hid hownL; have BL := Lib.hid hbL; clear hownL hbL) | (go_at_call 73; refine (HCh.out _).mono ?_; rintro e wC ⟨vC, rfl, hownC, hbC⟩; obtain ⟨hcC, -⟩ := bcell hbC; (first | (have qC0 := (hcC _ _ (by simpa using hz0)).trans s0; have qC1 := (hcC _ _ (by simpa using hz0)).trans s1) | (have qC0 := (hcC _ _ (Nat.lt_of_lt_of_le hz0 BL.out.size)).trans qL0; have qC1 := (hcC _ _ (Nat.lt_of_lt_of_le hz0 BL.out.size)).trans qL1)); clear hcC; obtain ⟨A', cap', rfl, hcap', hmax', hat'⟩ := own_view hownC; have RC := Lib.hid hat'; clear hat'; have BC := Lib.hid hbC; clear hownC hbC))
    all_goals first
      | (obtain ⟨WF, rfl⟩ : ∃ x, x = wC := ⟨_, rfl⟩
         have RL2 := Lib.hid (RL.out.below BC.out)
         have RC2 := Lib.hid RC.out
         have hBF : Below w.heap.size w WF := (hB2.trans ((show Below w2.heap.size w2 wL from ⟨BL.out.os, BL.out.tape, BL.out.output, BL.out.size, BL.out.block⟩).mono hB2.size)).trans (BC.out.mono (Nat.le_trans hB2.size BL.out.size))
         clear RL RC BL BC qC0 qC1 qL0 qL1)
      | (obtain ⟨WF, rfl⟩ : ∃ x, x = wL := ⟨_, rfl⟩
         have RL2 := Lib.hid RL.out
         have RC2 := Lib.hid (RC.out.below BL.out)
         have hBF : Below w.heap.size w WF := (hB2.trans ((show Below w2.heap.size w2 wC from ⟨BC.out.os, BC.out.tape, BC.out.output, BC.out.size, BC.out.block⟩).mono hB2.size)).trans (BL.out.mono (Nat.le_trans hB2.size BC.out.size))
         clear RL RC BL BC qC0 qC1 qL0 qL1)
    all_goals
      clear hB2 s0 s1
      unfold maxLen at hmax hmax'
      have hsF := hBF.size
      go_wp2_with fail
      have O0 := Lib.hid (World.ownsRow_lit (e := 2) (size := 1) (base := w.heap.size) WF (zs64 L.length) L.length (by omega) (by unfold maxLen; omega) (by rw [zs64_size, Nat.mul_one]))
      rw [H0.out] at O0
      have hB8 := hBF.alloc hsF (.cells (zs64 L.length) 2)
      go_loopw [10, 11] (fun t i wr => ∃ k : Nat, t = (.int .i64 (turnK k)) ∧ i = (.int .i64 ((k : Int) + 1)) ∧ k + 1 ≤ C.length ∧ Hid (wr.ownsRow w.heap.size 2 1 (.slice (some ⟨WF.heap.size, 0, none⟩) L.length L.length) L.length (ints (M k))) ∧ Hid (WF.grownBy wr (some WF.heap.size)) ∧ Below w.heap.size w wr) (fun _ i _ => C.length - (intOf i).toNat)
      case atStart => exact ⟨0, rfl, by go_num, by omega, O0, Lib.hid (World.grownBy_alloc _ _ _), hB8⟩
      case round =>
        obtain ⟨k, rfl, rfl, hk, HO, HG, hb⟩ := hrel
        have hsz := hb.size
        by_cases hlt : k + 1 < C.length
        · obtain ⟨hI1, hI2⟩ := HI.out k hlt
          have HV := Lib.hid (HX.out k)
          obtain ⟨⟨y0, y1⟩, ⟨x0, x1⟩⟩ := And.intro (HB.out (k + 1)) (HB.out k)
          have hne : ∀ b, A' = some ⟨b, 0, none⟩ → b < WF.heap.size := fun b hb => by obtain ⟨b', hb', -, hl, -⟩ := RC2.out (by omega); rw [hb'] at hb; injection hb with e; injection e with e; omega
          have RC3 := Lib.hid (RC2.out.grown HG.out (fun b hb e => by have := hne b hb; injection e with e; omega))
          obtain ⟨bc, rfl, -, hbl, hcc, -⟩ := RC3.out (by omega)
          have g1 := hcc _ _ (HFl.out (k + 1) hlt)
          have g2 := hcc _ _ (HFl.out k (by omega))
          have RL3 := Lib.hid (OwnsSS.grown RL2.out HG.out (fun b e => by injection e with e; omega))
          generalize (C.getD (k + 1) ⟨0, 0⟩).y = Y at *
          generalize (C.getD k ⟨0, 0⟩).y = X at *
          have hT := turnK_or k
          have hT2 := Lib.hid (turnK_next k)
          have hYb : -1000000000 ≤ turnK k * Y ∧ turnK k * Y ≤ 1000000000 := by rcases hT with e | e <;> rw [e] <;> omega
          obtain ⟨m0, m1⟩ := hYb
          have hTb : -1 ≤ turnK k ∧ turnK k ≤ 1 := by omega
          obtain ⟨t0, t1⟩ := hTb
          generalize turnK k = T at *
          have HCk := Lib.hid (fun B W h => HCo.out (.slice A L.length cap) B inn (T * Y) X W hI2 h)
          generalize cosetI (N : Int) L (T * Y) X = R at *
          obtain ⟨r, rfl⟩ := Int.eq_ofNat_of_zero_le hI1.1
          have hr : r < L.length := by omega
          have HV2 := Lib.hid (HV.out r rfl)
          have hbd := HBd.out k r
          have hMl := HLn.out k
          obtain ⟨bm, hbm, -, hml, hmc, hmf⟩ := (own_at HO.out) (by omega)
          injection hbm with hbm
          injection hbm with hbm
          subst hbm
          have u1 := hmc r _ (ints_at (l := M k) (by omega))
          have u2 := hmf r
          obtain ⟨v0, v1⟩ := hbd
          clear hmc hmf hcc hI1 hT HV
          generalize (M k).getD r 0 = q at *
          go_wp2_with fail
          refine wp_region_ext_tail 21 (by kernel_rfl) (by kernel_rfl) ?_
          simp only [List.take_succ_cons, List.take_zero, List.drop_succ_cons, List.drop_zero]
          repeat (go_big_quiet_step (first | ((go_at_call 74; refine Calls.ext_of (Nat.le_refl _) (HCk.out _ _ (OwnsSS.below RL3.out (Ext.h _)))))))
          refine wpQuiet_nil ?_
          intro w4 hb4
          obtain ⟨hc4, hf4⟩ := bcell hb4
          have hz4 : WF.heap.size < w4.heap.size := Nat.lt_of_lt_of_le hml hb4.size
          go_wp2_with fail
          have hB4 : Below w.heap.size w w4 := hb.trans (hb4.mono hsz)
          have HO4 := Lib.hid (own_set (j := r) (u := .int .i64 (q + 1)) (own_below HO.out hb4))
          have HG4 := Lib.hid (grown_trans' (grown_trans' HG.out (grown_of_below hb4)) (grown_set (j := r) (u := .int .i64 (q + 1))))
          clear hc4 hf4 hb4
          go_roundw
          case rel => exact ⟨k + 1, by rw [hT2.out], by go_num, by omega, Lib.hid (by rw [HV2.out, ← ints_set]; exact HO4.out), HG4, by go_grown⟩
          case measure => simp [intOf]; omega
        · obtain rfl : k = C.length - 1 := by omega
          go_wp2_with fail
          go_ret2
          exact ⟨_, rfl, by rw [HLn.out]; exact HO.out, hb⟩
  · rw [show mixRes n P Q = ⟨[], lcode n⟩ by simp [mixRes, hf, hl]]
    have hne : (lcode n != 0) = true := by simpa using hl
    clear hl
    generalize lcode n = K at *
    go_enter Try.func30, Try.ntmps30
    go_wp2_with fail
    refine (HF.out _).mono ?_; rintro e w1 ⟨rfl, hb1⟩
    obtain ⟨hc1, hf1⟩ := bcell hb1
    have hz0 : w.heap.size < w1.heap.size := by have := hb1.size; (try simp at this); omega
    go_wp2_with fail
    refine (HC.out _).mono ?_; rintro e w2 ⟨rfl, hb2⟩
    replace hb2 := bstep hb1 hb2
    clear hc1 hf1 hb1
    obtain ⟨hc2, hf2⟩ := bcell hb2
    have hB2 : Below w.heap.size w w2 := bfin (by go_grown) hb2
    go_wp2_with fail
    go_ret2
    exact ⟨_, rfl, World.ownsRow_nil _ _ _ _, by go_grown⟩
set_option maxRecDepth 100000 in
set_option maxHeartbeats 1000000 in
theorem lawFnExactMixOfFraction (m P Q : Int) (_ : I64 m) (_ : I64 P) (_ : I64 Q) (w : World) :
    Calls Try.prog 8 #[(.int .i64 m), (.agg #[.int .i64 P, .int .i64 Q])] w fun e w' => e = .returned (.bool true) ∧ Below w.heap.size w w' := by
  have HS := Lib.hid (sMixOfFraction_any m P Q)
  have HI := Lib.hid (MixOfFraction_any m P Q)
  have hn := mixRes_len m P Q
  generalize mixRes m P Q = R at HS HI hn
  obtain ⟨xs, c⟩ := R
  simp only at HS HI hn
  obtain ⟨n, hnl⟩ : ∃ n, xs.length = n := ⟨_, rfl⟩
  have HN := Lib.hid hnl
  rw [hnl] at HS HI hn
  clear hnl
  go_enter Try.func8, Try.ntmps8
  have hn2 : (c != c) = false := by simp
  have hml : n ≤ maxLen := by unfold maxLen; omega
  go_wp2_with fail
  have hXB := Lib.hid (show Blk2 (w.alloc (.cells #[(.int .i64 P), (.int .i64 Q)] 44)) w.heap.size 44 P Q from heap_new)
  have hBB : Below w.heap.size w (w.alloc (.cells #[(.int .i64 P), (.int .i64 Q)] 44)) := by go_grown
  generalize w.alloc _ = wB at *
  refine (toFraction_any P Q _).mono ?_; rintro e t1 ⟨rfl, ht1⟩
  go_wp2_with fail
  refine (HS.out _).mono ?_; rintro e w1 ⟨v0, rfl, ho0', hb1'⟩
  have ho0 := own_base ho0' ht1.size
  have hb1 := bfin ht1 hb1'
  clear ho0' hb1' ht1
  obtain ⟨A0, cap0, rfl, -, -, hat0⟩ := own_view ho0
  have hu0 := Lib.hid (own_under ho0)
  have R0 := Lib.hid hat0
  clear ho0 hat0
  obtain ⟨⟨bx20, bx21⟩, -, -⟩ := Blk2.open_ (heap_below hXB.out hb1)
  go_wp2_with fail
  refine (toFraction_any P Q _).mono ?_; rintro e t2 ⟨rfl, ht2⟩
  go_wp2_with fail
  refine (HI.out _).mono ?_; rintro e w2 ⟨v1, rfl, ho1', hb2'⟩
  have ho1 := own_base ho1' ht2.size
  have hb2 := bfin ht2 hb2'
  clear ho1' hb2' ht2
  obtain ⟨A1, cap1, rfl, -, -, hat1⟩ := own_view ho1
  have O1 := Lib.hid ho1
  have R1 := Lib.hid hat1
  clear ho1 hat1
  have R0' := Lib.hid (R0.out.below hb2)
  go_wp2_with fail
  refine (eqInt64S_same A1 A0 n cap1 cap0 _ _ xs w2 HN.out hml R1.out R0'.out).mono ?_; rintro e w3 ⟨rfl, hb3⟩
  have O3 := Lib.hid (own_below O1.out hb3)
  have R03 := Lib.hid (R0'.out.below hb3)
  have hB2 := hb1.trans (hb2.mono hb1.size)
  have hB3 := hB2.trans (hb3.mono hB2.size)
  have hN := HN.out
  have M := Lib.hid (markInt64S_any (.slice A1 n cap1) n w1.heap.size 2 xs 1 w3 hN (by omega) (by omega) O3.out)
  clear hN
  go_wp2_with fail
  refine (M.out).mono ?_; rintro e w4 ⟨rfl, ho4, hg4⟩
  have hB4 := below_mark hB3 O3.out hg4 hb1.size
  have R04 := Lib.hid (R03.out.far O3.out hg4 hu0.out)
  have O4 := Lib.hid ho4
  clear ho4 hg4 M
  have hm0 : ¬ ((1 : Int) + ((n : Nat) : Int) < 0) := by omega
  have hm1 : ((1 : Int) + ((n : Nat) : Int) != 1 + ((n : Nat) : Int)) = false := by simp
  go_wp2_with fail
  refine (heldInt64S_any A1 n cap1 _ 1 w4 hml (by omega) (by omega) (own_at O4.out)).mono ?_; rintro e w5 ⟨rfl, hb5⟩
  have hB5 := hB4.trans (hb5.mono hB4.size)
  have O5 := Lib.hid (own_below O4.out hb5)
  have R05 := Lib.hid (R04.out.below hb5)
  obtain ⟨⟨bx30, bx31⟩, -, -⟩ := Blk2.open_ (heap_below hXB.out hB5)
  go_wp2_with fail
  refine (toFraction_any P Q _).mono ?_; rintro e t3 ⟨rfl, ht3⟩
  go_wp2_with fail
  refine (HI.out _).mono ?_; rintro e w6 ⟨v2, rfl, ho6', hb6'⟩
  have ho6 := own_base ho6' ht3.size
  have hb6 := bfin ht3 hb6'
  clear ho6' hb6' ht3
  obtain ⟨A2, cap2, rfl, -, -, hat6⟩ := own_view ho6
  have R6 := Lib.hid hat6
  clear ho6 hat6
  have hB6 := hB5.trans (hb6.mono hB5.size)
  have O6 := Lib.hid (own_below O5.out hb6)
  have R06 := Lib.hid (R05.out.below hb6)
  go_wp2_with fail
  refine (eqInt64S_same A2 A0 n cap2 cap0 _ _ xs w6 HN.out hml R6.out R06.out).mono ?_; rintro e w7 ⟨rfl, hb7⟩
  have hB7 := hB6.trans (hb7.mono hB6.size)
  have O7 := Lib.hid (own_below O6.out hb7)
  go_wp2_with fail
  refine (heldInt64S_any A1 n cap1 _ 1 w7 hml (by omega) (by omega) (own_at O7.out)).mono ?_; rintro e w8 ⟨rfl, hb8⟩
  have hB8 := hB7.trans (hb8.mono hB7.size)
  go_wp2_with fail
  go_ret
  exact ⟨rfl, bfin hBB hB8⟩
end Go.Proofs.Ytjgnhnbhcnfdbaa
