/- Contracts: levels, mixes of fractions; the law MixOfFraction. -/
import Derived.Test.YtjgnhnbhcnfdbaaC67
import Derived.Test.YtjgnhnbhcnfdbaaC52
import Derived.Test.YtjgnhnbhcnfdbaaC73
import Derived.Test.YtjgnhnbhcnfdbaaN54
namespace Go.Proofs.Ytjgnhnbhcnfdbaa
open Go.RowKit
def zs64 (n : Nat) : Array Value := madeCells #[.int .i64 0] n
theorem zs64_list (n : Nat) : (zs64 n).toList = ints (List.replicate n 0) := by
  unfold zs64 madeCells ints
  apply List.ext_getElem
  · simp
  · intro i h1 h2
    simp [Nat.mod_one]
theorem zs64_size (n : Nat) : (zs64 n).size = n := size_madeCells _ _
set_option maxRecDepth 100000 in
theorem mk64 (n : Nat) (hn : n ≤ 100000) (W : World) : (Instr.makeSlice 38 (.int .i64 (n : Int)) (.int .i64 (n : Int))).run Try.prog W = .ok (.slice (some ⟨W.heap.size, 0, none⟩) n n) (W.alloc (.cells (zs64 n) 2)) := by
  obtain ⟨i, hi, h2⟩ := Option.map_eq_some_iff.1 (show (Try.prog.info? 2).map (fun i => (i.zero, i.size, i.bytes)) = some (some (.int .i64 0), 1, 8) by kernel_rfl)
  simp only [Prod.mk.injEq] at h2
  have := run_make (P := Try.prog) W 38 2 i (.int .i64 0) Try.underlying38 hi h2.1 .i64 .i64 n n (by omega) (Int.le_refl _) (by rw [h2.2.2]; omega) (by omega)
  rw [Int.toNat_natCast, h2.2.1, Nat.mul_one] at this
  exact this
theorem indexFunc_nil (V : Value) (w : World) : Calls Try.prog 143 #[.slice none 0 0, V] w fun e w' => e = .returned (.int .i64 (-1)) ∧ w = w' := by
  go_enter Try.func143, Try.ntmps143
  go_wp2_with fail
  refine wp_loop_rounds 1 ?_
  rw [rounds_succ]
  go_wp2_with fail
  go_ret
  exact ⟨rfl, rfl⟩
theorem containsFunc_nil (V : Value) (w : World) : Calls Try.prog 118 #[.slice none 0 0, V] w fun e w' => e = .returned (.bool false) ∧ w = w' := by
  go_enter Try.func118, Try.ntmps118
  go_wp2_with fail
  refine (indexFunc_nil _ _).mono ?_; rintro e w' ⟨rfl, rfl⟩
  go_wp2_with fail
  go_ret
  exact ⟨rfl, rfl⟩
theorem lcode_no {n : Int} (h : inB n 1 60 = false) : lcode n = 2 := by unfold lcode; rw [if_neg (by rw [h]; simp)]
theorem lcode_yes {n : Int} (h : inB n 1 60 = true) : lcode n = if 72 < ((lineL n).length : Int) then 3 else 0 := by unfold lcode; rw [if_pos h]
set_option maxHeartbeats 1000000 in
theorem levelCode_any (n : Int) (w : World) :
    Calls Try.prog 76 #[(.int .i64 n), .slice none 0 0] w fun e w' => e = .returned (.int .i64 (lcode n)) ∧ Below w.heap.size w w' := by
  have H1 := Lib.hid (fun W => isLevel_any n W)
  have H2 := Lib.hid (fun V W => containsFunc_nil V W)
  cases hn : inB n 1 60
  · rw [lcode_no hn]
    rw [hn] at H1
    go_enter Try.func76, Try.ntmps76
    go_wp2_with fail
    refine (H1.out _).mono ?_; rintro e w' ⟨rfl, rfl⟩
    go_wp2_with fail
    go_ret
    exact ⟨rfl, Below.refl _ _⟩
  · rw [lcode_yes hn]
    rw [hn] at H1
    obtain ⟨n0, n1⟩ := inB_iff.1 hn
    clear hn
    obtain ⟨N, rfl⟩ := Int.eq_ofNat_of_zero_le (show 0 ≤ n by omega)
    have HL := Lib.hid (fun W => line_any N W (by omega) (by omega))
    generalize (lineL (N : Int)).length = L at *
    by_cases h : 72 < (L : Int)
    · rw [if_pos h]
      go_enter Try.func76, Try.ntmps76
      go_wp2_with fail
      refine (H1.out _).mono ?_; rintro e w' ⟨rfl, rfl⟩
      go_wp2_with fail
      refine (H2.out _ _).mono ?_; rintro e w' ⟨rfl, rfl⟩
      go_wp2_with fail
      refine (HL.out _).mono ?_; rintro e w1 ⟨v, rfl, hown, hb1⟩
      obtain ⟨A, cap, rfl, -, -, -⟩ := own_view hown
      clear hown
      go_wp2_with fail
      go_ret
      exact ⟨rfl, hb1⟩
    · rw [if_neg h]
      go_enter Try.func76, Try.ntmps76
      go_wp2_with fail
      refine (H1.out _).mono ?_; rintro e w' ⟨rfl, rfl⟩
      go_wp2_with fail
      refine (H2.out _ _).mono ?_; rintro e w' ⟨rfl, rfl⟩
      go_wp2_with fail
      refine (HL.out _).mono ?_; rintro e w1 ⟨v, rfl, hown, hb1⟩
      obtain ⟨A, cap, rfl, -, -, -⟩ := own_view hown
      clear hown
      go_wp2_with fail
      go_ret
      exact ⟨rfl, hb1⟩
theorem idx_line {n : Int} (h : inB n 1 60 = true) : idxRes 0 n = (((lineL n).length : Int), 0) := by
  have hn := h
  rw [inB_iff] at hn
  obtain ⟨N, rfl⟩ := Int.eq_ofNat_of_zero_le (show 0 ≤ n by omega)
  have e := line_index (n := N) (by omega) (by omega)
  unfold idxRes
  rw [if_pos (by simp [inB]; omega), e]
  unfold idxV
  simp
set_option maxHeartbeats 1000000 in
theorem l08Code_any (n : Int) (w : World) :
    Calls Try.prog 71 #[(.int .i64 n)] w fun e w' => e = .returned (.int .i64 (lcode n)) ∧ Below w.heap.size w w' := by
  have H1 := Lib.hid (fun W => l01In_any n 1 60 W)
  have H2 := Lib.hid (fun W => sIndexOf_any 0 n W)
  cases hn : inB n 1 60
  · rw [lcode_no hn]
    rw [hn] at H1
    go_enter Try.func71, Try.ntmps71
    go_wp2_with fail
    refine (H1.out _).mono ?_; rintro e w' ⟨rfl, rfl⟩
    go_wp2_with fail
    go_ret
    exact ⟨rfl, Below.refl _ _⟩
  · rw [lcode_yes hn]
    rw [hn] at H1
    rw [idx_line hn] at H2
    clear hn
    generalize ((lineL n).length : Int) = L at *
    by_cases h : 72 < L
    · rw [if_pos h]
      go_enter Try.func71, Try.ntmps71
      go_wp2_with fail
      refine (H1.out _).mono ?_; rintro e w' ⟨rfl, rfl⟩
      go_wp2_with fail
      refine (H2.out _).mono ?_; rintro e w1 ⟨rfl, hb1⟩
      obtain ⟨hc1, hf1⟩ := bcell hb1
      have hB1 : Below w.heap.size w w1 := bfin (by go_grown) hb1
      go_wp2_with fail
      go_ret
      exact ⟨rfl, by go_grown⟩
    · rw [if_neg h]
      go_enter Try.func71, Try.ntmps71
      go_wp2_with fail
      refine (H1.out _).mono ?_; rintro e w' ⟨rfl, rfl⟩
      go_wp2_with fail
      refine (H2.out _).mono ?_; rintro e w1 ⟨rfl, hb1⟩
      obtain ⟨hc1, hf1⟩ := bcell hb1
      have hB1 : Below w.heap.size w w1 := bfin (by go_grown) hb1
      go_wp2_with fail
      go_ret
      exact ⟨rfl, by go_grown⟩
theorem mixL_next {n : Int} {L C : List P2} {k : Nat} {i : Nat} (h : mixI n L C k = i) : mixL n L C (k + 1) = (mixL n L C k).set i ((mixL n L C k).getD i 0 + 1) := by
  show (mixL n L C k).set (mixI n L C k).toNat ((mixL n L C k).getD (mixI n L C k).toNat 0 + 1) = _
  rw [h]; rfl
theorem ints_set (l : List Int) (i : Nat) (x : Int) : (ints l).set i (.int .i64 x) = ints (l.set i x) := by simp [ints, List.map_set]
theorem flat2_getD {l : List P2} {k : Nat} (h : k < l.length) : (ints (flat2 l))[k * 2 + 1]? = some (.int .i64 (l.getD k ⟨0, 0⟩).y) := by
  rw [(flat2_at h).2]; simp [List.getD, List.getElem?_eq_getElem h]
/-- A row is known behind growth elsewhere. -/
theorem RowAt.grown {w w' : World} {B n : Nat} {A : Option Addr} {xs : List Value} {row : Option Nat} (h : RowAt w B A n xs) (hg : w.grownBy w' row) (hne : ∀ b, A = some ⟨b, 0, none⟩ → row ≠ some b) : RowAt w' B A n xs := fun hn => by
  obtain ⟨b, hA, hB, hlt, hc, hf⟩ := h hn
  have e := hg.block b hlt (fun e => hne b hA e.symm)
  exact ⟨b, hA, hB, Nat.lt_of_lt_of_le hlt hg.size, fun j u hu => (World.cell?_of_block (a := ⟨b, j, none⟩) e).trans (hc j u hu), fun j => (World.frozen?_of_block (a := ⟨b, j, none⟩) e).trans (hf j)⟩
set_option maxRecDepth 100000 in
set_option maxHeartbeats 4000000 in
theorem MixOfFraction_any (n P Q : Int) (w : World) :
    Calls Try.prog 32 #[(.int .i64 n), (.agg #[.int .i64 P, .int .i64 Q])] w fun e w' => ∃ v, e = .returned (.tuple #[v, (.int .i64 ((mixRes n P Q).c))]) ∧ w'.ownsRow w.heap.size 2 1 v (mixRes n P Q).xs.length (ints (mixRes n P Q).xs) ∧ Below w.heap.size w w' := by
  have HF := Lib.hid (fun W => IsFraction_any P Q W)
  have HC := Lib.hid (fun W => levelCode_any n W)
  cases hf : isFrac P Q
  · rw [show mixRes n P Q = ⟨[], 1⟩ by simp [mixRes, hf]]
    rw [hf] at HF
    go_enter Try.func32, Try.ntmps32
    go_wp2_with fail
    refine (HF.out _).mono ?_; rintro e w1 ⟨rfl, hb1⟩
    obtain ⟨hc1, hf1⟩ := bcell hb1
    have hB1 : Below w.heap.size w w1 := bfin (by go_grown) hb1
    go_wp2_with fail
    go_ret2
    exact ⟨_, rfl, World.ownsRow_nil _ _ _ _, by go_grown⟩
  rw [hf] at HF
  by_cases hl : lcode n = 0
  · rw [show mixRes n P Q = ⟨mixL n (lineL n) (chainL P Q) ((chainL P Q).length - 1), 0⟩ by simp [mixRes, hf, hl]]
    obtain ⟨n0, n1, hl72⟩ := lcode_zero hl
    rw [hl] at HC
    clear hl
    obtain ⟨N, rfl⟩ := Int.eq_ofNat_of_zero_le (show 0 ≤ n by omega)
    have HL := Lib.hid (fun W => line_any N W (by omega) (by omega))
    have HCh := Lib.hid (fun W => chainOf_any P Q W hf)
    have hcl : (chainL P Q).length ≤ 61 ∧ 1 ≤ (chainL P Q).length := by
      have h1 := chainL_len P Q
      obtain ⟨-, hQ, -, -⟩ := isFrac_iff.1 hf
      have := cfrac_len (p := P) hQ.1 hQ.2
      omega
    obtain ⟨kc1, kc2⟩ := hcl
    have HB := Lib.hid (chain_bd hf)
    have HI := Lib.hid (fun k hk => mixI_in (N := N) (P := P) (Q := Q) (k := k) (by omega) hk)
    have HFl := Lib.hid (fun k hk => @flat2_getD (chainL P Q) k hk)
    have HX := Lib.hid (fun k i h => @mixL_next N (lineL N) (chainL P Q) k i h)
    have HLn := Lib.hid (mixL_len N (lineL N) (chainL P Q))
    have HBd := Lib.hid (mixL_bd N (lineL N) (chainL P Q))
    have H0 := Lib.hid (show (zs64 (lineL N).length).toList = ints (mixL N (lineL N) (chainL P Q) 0) from zs64_list _)
    have HCo := Lib.hid (fun A cap B c d W h => coset_any N A cap B (lineL N) c d W (by omega) (by omega) (by omega) h)
    simp only [mixI] at HI HX
    have hmk := mk64 (lineL (N : Int)).length (by omega)
    generalize hMM : mixL (N : Int) (lineL N) (chainL P Q) = M at *
    clear hMM
    generalize chainL P Q = C at *
    generalize lineL (N : Int) = L at *
    go_enter Try.func32, Try.ntmps32
    go_wp2_with fail
    refine (HF.out _).mono ?_; rintro e w1 ⟨rfl, hb1⟩
    obtain ⟨hc1, hf1⟩ := bcell hb1
    have hz0 : w.heap.size < w1.heap.size := by have := hb1.size; (try simp at this); omega
    go_wp2_with fail
    refine (HC.out _).mono ?_; rintro e w2 ⟨rfl, hb2⟩
    replace hb2 := bstep hb1 hb2
    clear hc1 hf1 hb1
    obtain ⟨hc2, hf2⟩ := bcell hb2
    have hz0 : w.heap.size < w2.heap.size := by have := hb2.size; (try simp at this); omega
    go_wp2_with fail
    have hB2 : Below w.heap.size w w2 := bfin (by go_grown) hb2
    have s0 : w2.cell? ⟨w.heap.size, 0, none⟩ = some (.int .i64 P) := by rw [hc2 _ _ (by simp)]; go_simp
    have s1 : w2.cell? ⟨w.heap.size, 1, none⟩ = some (.int .i64 Q) := by rw [hc2 _ _ (by simp)]; go_simp
    clear hc2 hf2
    go_region_held3 (fun w' => w'.cell? ⟨w.heap.size, 0, none⟩ = some (.int .i64 P) ∧ w'.cell? ⟨w.heap.size, 1, none⟩ = some (.int .i64 Q)) (first | exact ⟨qL0, qL1⟩ | exact ⟨qC0, qC1⟩ | go_keep) (first | (go_at_call 77; refine (HL.out _).mono ?_; rintro e wL ⟨vL, rfl, hownL, hbL⟩; obtain ⟨hcL, -⟩ := bcell hbL; (first | (have qL0 := (hcL _ _ (by simpa using hz0)).trans s0; have qL1 := (hcL _ _ (by simpa using hz0)).trans s1) | (have qL0 := (hcL _ _ (Nat.lt_of_lt_of_le hz0 BC.out.size)).trans qC0; have qL1 := (hcL _ _ (Nat.lt_of_lt_of_le hz0 BC.out.size)).trans qC1)); clear hcL; obtain ⟨A, cap, rfl, hcap, hmax, hat⟩ := own_view hownL; have RL := Lib.hid hat; clear hat; have BL := Lib.hid hbL; clear hownL hbL) | (go_at_call 78; refine (HCh.out _).mono ?_; rintro e wC ⟨vC, rfl, hownC, hbC⟩; obtain ⟨hcC, -⟩ := bcell hbC; (first | (have qC0 := (hcC _ _ (by simpa using hz0)).trans s0; have qC1 := (hcC _ _ (by simpa using hz0)).trans s1) | (have qC0 := (hcC _ _ (Nat.lt_of_lt_of_le hz0 BL.out.size)).trans qL0; have qC1 := (hcC _ _ (Nat.lt_of_lt_of_le hz0 BL.out.size)).trans qL1)); clear hcC; obtain ⟨A', cap', rfl, hcap', hmax', hat'⟩ := own_view hownC; have RC := Lib.hid hat'; clear hat'; have BC := Lib.hid hbC; clear hownC hbC))
    all_goals first
      | (obtain ⟨WF, rfl⟩ : ∃ x, x = wC := ⟨_, rfl⟩
         have RL2 := Lib.hid (RL.out.below BC.out)
         have RC2 := Lib.hid RC.out
         have hBF : Below w.heap.size w WF := (hB2.trans ((show Below w2.heap.size w2 wL from ⟨BL.out.os, BL.out.tape, BL.out.output, BL.out.size, BL.out.block⟩).mono hB2.size)).trans (BC.out.mono (Nat.le_trans hB2.size BL.out.size))
         clear RL RC BL BC qC0 qC1 qL0 qL1)
      | (obtain ⟨WF, rfl⟩ : ∃ x, x = wL := ⟨_, rfl⟩
         have RL2 := Lib.hid RL.out
         have RC2 := Lib.hid (RC.out.below BL.out)
         have hBF : Below w.heap.size w WF := (hB2.trans ((show Below w2.heap.size w2 wC from ⟨BC.out.os, BC.out.tape, BC.out.output, BC.out.size, BC.out.block⟩).mono hB2.size)).trans (BL.out.mono (Nat.le_trans hB2.size BC.out.size))
         clear RL RC BL BC qC0 qC1 qL0 qL1)
    all_goals
      clear hB2 s0 s1
      unfold maxLen at hmax hmax'
      have hsF := hBF.size
      go_wp2_with fail
      have O0 := Lib.hid (World.ownsRow_lit (e := 2) (size := 1) (base := w.heap.size) WF (zs64 L.length) L.length (by omega) (by unfold maxLen; omega) (by rw [zs64_size, Nat.mul_one]))
      rw [H0.out] at O0
      have hB8 := hBF.alloc hsF (.cells (zs64 L.length) 2)
      go_loopw [10, 11] (fun t i wr => ∃ k : Nat, t = (.int .i64 (turnK k)) ∧ i = (.int .i64 ((k : Int) + 1)) ∧ k + 1 ≤ C.length ∧ Hid (wr.ownsRow w.heap.size 2 1 (.slice (some ⟨WF.heap.size, 0, none⟩) L.length L.length) L.length (ints (M k))) ∧ Hid (WF.grownBy wr (some WF.heap.size)) ∧ Below w.heap.size w wr) (fun _ i _ => C.length - (intOf i).toNat)
      case atStart => exact ⟨0, rfl, by go_num, by omega, O0, Lib.hid (World.grownBy_alloc _ _ _), hB8⟩
      case round =>
        obtain ⟨k, rfl, rfl, hk, HO, HG, hb⟩ := hrel
        have hsz := hb.size
        by_cases hlt : k + 1 < C.length
        · obtain ⟨hI1, hI2⟩ := HI.out k hlt
          have HV := Lib.hid (HX.out k)
          obtain ⟨⟨y0, y1⟩, ⟨x0, x1⟩⟩ := And.intro (HB.out (k + 1)) (HB.out k)
          have hne : ∀ b, A' = some ⟨b, 0, none⟩ → b < WF.heap.size := fun b hb => by obtain ⟨b', hb', -, hl, -⟩ := RC2.out (by omega); rw [hb'] at hb; injection hb with e; injection e with e; omega
          have RC3 := Lib.hid (RC2.out.grown HG.out (fun b hb e => by have := hne b hb; injection e with e; omega))
          obtain ⟨bc, rfl, -, hbl, hcc, -⟩ := RC3.out (by omega)
          have g1 := hcc _ _ (HFl.out (k + 1) hlt)
          have g2 := hcc _ _ (HFl.out k (by omega))
          have hneL : ∀ b, A = some ⟨b, 0, none⟩ → b < WF.heap.size := fun b hb => by obtain ⟨b', hb', -, hl, -⟩ := RL2.out (by omega); rw [hb'] at hb; injection hb with e; injection e with e; omega
          have RL3 := Lib.hid (RL2.out.grown HG.out (fun b hb e => by have := hneL b hb; injection e with e; omega))
          clear hneL hne
          generalize (C.getD (k + 1) ⟨0, 0⟩).y = Y at *
          generalize (C.getD k ⟨0, 0⟩).y = X at *
          have hT := turnK_or k
          have hT2 := Lib.hid (turnK_next k)
          have hYb : -1000000000 ≤ turnK k * Y ∧ turnK k * Y ≤ 1000000000 := by rcases hT with e | e <;> rw [e] <;> omega
          obtain ⟨m0, m1⟩ := hYb
          have hTb : -1 ≤ turnK k ∧ turnK k ≤ 1 := by omega
          obtain ⟨t0, t1⟩ := hTb
          generalize turnK k = T at *
          have HCk := Lib.hid (fun B W h => HCo.out A cap B (T * Y) X W h)
          generalize cosetI (N : Int) L (T * Y) X = R at *
          obtain ⟨r, rfl⟩ := Int.eq_ofNat_of_zero_le hI1.1
          have hr : r < L.length := by omega
          have HV2 := Lib.hid (HV.out r rfl)
          have hbd := HBd.out k r
          have hMl := HLn.out k
          obtain ⟨bm, hbm, -, hml, hmc, hmf⟩ := (own_at HO.out) (by omega)
          injection hbm with hbm
          injection hbm with hbm
          subst hbm
          have u1 := hmc r _ (ints_at (l := M k) (by omega))
          have u2 := hmf r
          obtain ⟨v0, v1⟩ := hbd
          clear hmc hmf hcc hI1 hT HV
          generalize (M k).getD r 0 = q at *
          go_wp2_with fail
          refine wp_region_ext_tail 21 (by kernel_rfl) (by kernel_rfl) ?_
          simp only [List.take_succ_cons, List.take_zero, List.drop_succ_cons, List.drop_zero]
          repeat (go_big_quiet_step (first | ((go_at_call 79; refine Calls.ext_of (Nat.le_refl _) (HCk.out _ _ (RL3.out.below (Ext.h _)))))))
          refine wpQuiet_nil ?_
          intro w4 hb4
          obtain ⟨hc4, hf4⟩ := bcell hb4
          have hz4 : WF.heap.size < w4.heap.size := Nat.lt_of_lt_of_le hml hb4.size
          go_wp2_with fail
          have hB4 : Below w.heap.size w w4 := hb.trans (hb4.mono hsz)
          have HO4 := Lib.hid (own_set (j := r) (u := .int .i64 (q + 1)) (own_below HO.out hb4))
          have HG4 := Lib.hid (grown_trans' (grown_trans' HG.out (grown_of_below hb4)) (grown_set (j := r) (u := .int .i64 (q + 1))))
          clear hc4 hf4 hb4
          go_roundw
          case rel => exact ⟨k + 1, by rw [hT2.out], by go_num, by omega, Lib.hid (by rw [HV2.out, ← ints_set]; exact HO4.out), HG4, by go_grown⟩
          case measure => simp [intOf]; omega
        · obtain rfl : k = C.length - 1 := by omega
          go_wp2_with fail
          go_ret2
          exact ⟨_, rfl, by rw [HLn.out]; exact HO.out, hb⟩
  · rw [show mixRes n P Q = ⟨[], lcode n⟩ by simp [mixRes, hf, hl]]
    have hne : (lcode n != 0) = true := by simpa using hl
    clear hl
    generalize lcode n = K at *
    go_enter Try.func32, Try.ntmps32
    go_wp2_with fail
    refine (HF.out _).mono ?_; rintro e w1 ⟨rfl, hb1⟩
    obtain ⟨hc1, hf1⟩ := bcell hb1
    have hz0 : w.heap.size < w1.heap.size := by have := hb1.size; (try simp at this); omega
    go_wp2_with fail
    refine (HC.out _).mono ?_; rintro e w2 ⟨rfl, hb2⟩
    replace hb2 := bstep hb1 hb2
    clear hc1 hf1 hb1
    obtain ⟨hc2, hf2⟩ := bcell hb2
    have hB2 : Below w.heap.size w w2 := bfin (by go_grown) hb2
    go_wp2_with fail
    go_ret2
    exact ⟨_, rfl, World.ownsRow_nil _ _ _ _, by go_grown⟩
end Go.Proofs.Ytjgnhnbhcnfdbaa
