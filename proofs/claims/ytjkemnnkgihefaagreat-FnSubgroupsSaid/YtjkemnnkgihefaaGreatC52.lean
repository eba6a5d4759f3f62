/- Contracts: what is counted with prime divisors; IndexOf and its law. -/
import Derived.Test.YtjkemnnkgihefaaGreatC51
namespace Go.Proofs.YtjkemnnkgihefaaGreat
open Go.RowKit
theorem ret_two {a b x y : Int} (h1 : x = a) (h2 : y = b) : Ending.returned (.tuple #[(.int .i64 x), (.int .i64 y)]) = .returned (.tuple #[(.int .i64 a), (.int .i64 b)]) := by rw [h1, h2]
theorem chk_end {g : Nat → Nat → Nat} {B : Nat} : ∀ {l : List Nat} {o : Nat}, chk g B o l = true → fTimes g o l ≤ B
  | [], _, h => chk_le h
  | _ :: l, _, h => chk_end (l := l) (chk_step h).next
theorem castL_at {l : List Nat} {j : Nat} (h : j < l.length) : (ints (castL l))[j]? = some (.int .i64 ((l[j] : Nat) : Int)) := by
  simp [ints, castL, List.getElem?_eq_getElem h]
theorem gMod_cast {o p : Nat} (hp : 1 ≤ p) : ((gMod o p : Nat) : Int) = (o : Int) / ((p : Int) * (p : Int)) * ((p : Int) * (p : Int) - 1) := by
  unfold gMod
  have : 1 ≤ p * p := Nat.mul_le_mul hp hp
  push_cast
  rw [Int.natCast_sub this]; push_cast; rfl
theorem gIdx_cast {o p : Nat} : ((gIdx o p : Nat) : Int) = (o : Int) / (p : Int) * ((p : Int) + 1) := by
  unfold gIdx; push_cast; rfl
theorem gPhi_cast {o p : Nat} (hp : 1 ≤ p) : ((gPhi o p : Nat) : Int) = (o : Int) / (p : Int) * ((p : Int) - 1) := by
  unfold gPhi; push_cast; rw [Int.natCast_sub hp]; push_cast; rfl
theorem sq_bd {p : Nat} (h1 : 1 ≤ p) (h2 : p ≤ 1000) : 1 ≤ (p : Int) * (p : Int) ∧ (p : Int) * (p : Int) ≤ 1000000 := by
  have e := mul_bd (a := (p : Int)) (b := (p : Int)) (A := 1000) (B := 1000) (by omega) (by omega) (by omega) (by omega)
  have e2 := Int.mul_le_mul (show (1 : Int) ≤ p by omega) (show (1 : Int) ≤ p by omega) (by omega) (by omega)
  omega
theorem div_bd {o q : Int} (h0 : 0 ≤ o) (h1 : o ≤ 1000000000) (hq : 1 ≤ q) : 0 ≤ o / q ∧ o / q ≤ 1000000000 := ⟨Int.ediv_nonneg h0 (by omega), (ediv_bd (K := 1000000000) (by omega) (by omega) h1).2⟩
theorem cube_bd {N : Nat} (n1 : N ≤ 1000) : (N : Int) * N ≤ 1000000 ∧ 0 ≤ (N : Int) * N ∧ (N : Int) * N * N ≤ 1000000000 ∧ 0 ≤ (N : Int) * N * N := by
  have h1 := Int.mul_le_mul (show (N : Int) ≤ 1000 by omega) (show (N : Int) ≤ 1000 by omega) (by omega) (by omega)
  have h2 := Int.mul_le_mul (show (N : Int) * N ≤ 1000000 by omega) (show (N : Int) ≤ 1000 by omega) (by omega) (by omega)
  have h3 : 0 ≤ (N : Int) * N := Int.mul_nonneg (by omega) (by omega)
  have h4 : 0 ≤ (N : Int) * N * N := Int.mul_nonneg h3 (by omega)
  exact ⟨by omega, h3, by omega, h4⟩
set_option maxRecDepth 100000 in
set_option maxHeartbeats 2000000 in
theorem countModulo_any (N : Nat) (w : World) (n0 : 0 < N) (n1 : N ≤ 1000) :
    Calls Tryz.prog 54 #[(.int .i64 ((N : Int)))] w fun e w' => e = .returned (.int .i64 (((fTimes gMod (N * N * N) (primesL N) : Nat) : Int))) ∧ Below w.heap.size w w' := by
  have hI := idxOk_of n0 n1
  simp only [idxOk, Bool.and_eq_true] at hI
  have HC := Lib.hid hI.2.1
  have HU := Lib.hid (fun W => primesOf_any N W n0 n1)
  obtain ⟨b1, b2, b3, b4⟩ := cube_bd n1
  have HC3 := Lib.hid (show ((N * N * N : Nat) : Int) = (N : Int) * N * N by push_cast; rfl)
  obtain ⟨R, hR⟩ : ∃ R, fTimes gMod (N * N * N) (primesL N) = R := ⟨_, rfl⟩
  have HR := Lib.hid hR
  rw [hR]
  clear hR hI
  generalize primesL N = L at *
  go_enter Tryz.func54, Tryz.ntmps54
  go_wp2_with fail
  refine (HU.out _).mono ?_; rintro e w1 ⟨v, rfl, hown, hb1⟩
  obtain ⟨A, cap, rfl, hcap, hmax, hat⟩ := own_view hown
  unfold maxLen at hmax
  clear hown
  go_wp2_with fail
  go_loop [3, 14] (fun s i => ∃ j o : Nat, s = (.int .i64 ((o : Int))) ∧ i = (.int .i64 ((j : Int))) ∧ j ≤ L.length ∧ Hid (chk gMod 1000000000 o (L.drop j) = true ∧ fTimes gMod o (L.drop j) = R)) (fun _ i => L.length - (intOf i).toNat)
  case atStart => exact ⟨0, N * N * N, by rw [HC3.out], rfl, Nat.zero_le _, Lib.hid ⟨HC.out, HR.out⟩⟩
  case round =>
    obtain ⟨j, o, rfl, rfl, hj, HP⟩ := hrel
    by_cases hlt : j < L.length
    · obtain ⟨b, rfl, -, hbl, hc, -⟩ := hat (by omega)
      have hcj := hc j _ (castL_at hlt)
      have HD := Lib.hid (List.drop_eq_getElem_cons hlt)
      generalize L[j] = p at hcj HD
      have HS : Hid (ChkStep gMod 1000000000 o p (L.drop (j + 1))) := Lib.hid (chk_step (by rw [← HD.out]; exact HP.out.1))
      have HF : Hid (fTimes gMod (gMod o p) (L.drop (j + 1)) = R) := Lib.hid (by have := HP.out.2; rw [HD.out] at this; exact this)
      have o1 := HS.out.o
      have p1 := HS.out.p1
      have p2 := HS.out.p2
      have HX := Lib.hid (gMod_cast (o := o) p1)
      have hx := HS.out.n
      have hx2 : 0 ≤ (o : Int) / ((p : Int) * (p : Int)) * ((p : Int) * (p : Int) - 1) ∧ (o : Int) / ((p : Int) * (p : Int)) * ((p : Int) * (p : Int) - 1) ≤ 1000000000 := by rw [← HX.out]; omega
      obtain ⟨q1, q2⟩ := sq_bd p1 p2
      obtain ⟨d1, d2⟩ := div_bd (o := (o : Int)) (by omega) (by omega) q1
      obtain ⟨x1, x2⟩ := hx2
      clear hc hat hx
      go_wp2_with fail
      go_round
      case rel => exact ⟨j + 1, gMod o p, by rw [HX.out], by go_num, by omega, Lib.hid ⟨HS.out.next, HF.out⟩⟩
      case measure => simp [intOf]; omega
    · obtain rfl : j = L.length := by omega
      have HE := Lib.hid (show o = R by have := HP.out.2; rw [List.drop_length] at this; exact this)
      clear hat
      have hB1 : Below w.heap.size w w1 := bfin (by go_grown) hb1
      go_wp2_with fail
      go_ret
      exact ⟨ret_int (by have := HE.out; exact_mod_cast this), hB1⟩
def idxV (fam : Int) (N : Nat) : Nat := if fam = 0 then fTimes gIdx N (primesL N) else if fam = 1 then fTimes gMod (N * N) (primesL N) else fTimes gMod (N * N * N) (primesL N)
def idxRes (fam n : Int) : Int × Int := if (inB fam 0 2 && inB n 1 1000) = true then (((idxV fam n.toNat : Nat) : Int), 0) else (0, 2)
set_option maxRecDepth 100000 in
set_option maxHeartbeats 2000000 in
theorem IndexOf_any (fam n : Int) (w : World) :
    Calls Tryz.prog 22 #[(.int .i64 fam), (.int .i64 n)] w fun e w' => e = .returned (.tuple #[(.int .i64 ((idxRes fam n).1)), (.int .i64 ((idxRes fam n).2))]) ∧ Below w.heap.size w w' := by
  have H1 := Lib.hid (fun W => within_any fam 0 2 W)
  have H2 := Lib.hid (fun W => within_any n 1 1000 W)
  cases hf : inB fam 0 2
  · rw [show idxRes fam n = (0, 2) by simp [idxRes, hf]]
    rw [hf] at H1
    go_enter Tryz.func22, Tryz.ntmps22
    go_wp2_with fail
    refine (H1.out _).mono ?_; rintro e w' ⟨rfl, rfl⟩
    go_wp2_with fail
    go_ret2
    exact ⟨rfl, Below.refl _ _⟩
  rw [hf] at H1
  cases hn : inB n 1 1000
  · rw [show idxRes fam n = (0, 2) by simp [idxRes, hf, hn]]
    rw [hn] at H2
    go_enter Tryz.func22, Tryz.ntmps22
    go_wp2_with fail
    refine (H1.out _).mono ?_; rintro e w' ⟨rfl, rfl⟩
    go_wp2_with fail
    refine (H2.out _).mono ?_; rintro e w' ⟨rfl, rfl⟩
    go_wp2_with fail
    go_ret2
    exact ⟨rfl, Below.refl _ _⟩
  rw [hn] at H2
  rw [show idxRes fam n = (((idxV fam n.toNat : Nat) : Int), 0) by simp [idxRes, hf, hn]]
  obtain ⟨f0, f1⟩ := inB_iff.1 hf
  obtain ⟨n0, n1⟩ := inB_iff.1 hn
  clear hf hn
  obtain ⟨N, rfl⟩ := Int.eq_ofNat_of_zero_le (show 0 ≤ n by omega)
  rw [Int.toNat_natCast]
  have N0 : 0 < N := by omega
  have N1 : N ≤ 1000 := by omega
  have hI := idxOk_of N0 N1
  simp only [idxOk, Bool.and_eq_true, decide_eq_true_eq] at hI
  have HM := Lib.hid (fun W => countModulo_any N W N0 N1)
  rcases (show fam = 0 ∨ fam = 1 ∨ fam = 2 by omega) with rfl | rfl | rfl
  · have HC := Lib.hid hI.1
    have HU := Lib.hid (fun W => primesOf_any N W N0 N1)
    obtain ⟨R, hR⟩ : ∃ R, fTimes gIdx N (primesL N) = R := ⟨_, rfl⟩
    rw [show idxV 0 N = R by simpa [idxV] using hR]
    have HR := Lib.hid hR
    clear hR hI HM
    generalize primesL N = L at *
    go_enter Tryz.func22, Tryz.ntmps22
    go_wp2_with fail
    refine (H1.out _).mono ?_; rintro e w' ⟨rfl, rfl⟩
    go_wp2_with fail
    refine (H2.out _).mono ?_; rintro e w' ⟨rfl, rfl⟩
    go_wp2_with fail
    refine (HU.out _).mono ?_; rintro e w1 ⟨v, rfl, hown, hb1⟩
    obtain ⟨A, cap, rfl, hcap, hmax, hat⟩ := own_view hown
    unfold maxLen at hmax
    clear hown
    go_wp2_with fail
    go_loop [6, 32] (fun s i => ∃ j o : Nat, s = (.int .i64 ((o : Int))) ∧ i = (.int .i64 ((j : Int))) ∧ j ≤ L.length ∧ Hid (chk gIdx 1000000 o (L.drop j) = true ∧ fTimes gIdx o (L.drop j) = R)) (fun _ i => L.length - (intOf i).toNat)
    case atStart => exact ⟨0, N, rfl, rfl, Nat.zero_le _, Lib.hid ⟨HC.out, HR.out⟩⟩
    case round =>
      obtain ⟨j, o, rfl, rfl, hj, HP⟩ := hrel
      by_cases hlt : j < L.length
      · obtain ⟨b, rfl, -, hbl, hc, -⟩ := hat (by omega)
        have hcj := hc j _ (castL_at hlt)
        have HD := Lib.hid (List.drop_eq_getElem_cons hlt)
        generalize L[j] = p at hcj HD
        have HS : Hid (ChkStep gIdx 1000000 o p (L.drop (j + 1))) := Lib.hid (chk_step (by rw [← HD.out]; exact HP.out.1))
        have HF : Hid (fTimes gIdx (gIdx o p) (L.drop (j + 1)) = R) := Lib.hid (by have := HP.out.2; rw [HD.out] at this; exact this)
        have o1 := HS.out.o
        have p1 := HS.out.p1
        have p2 := HS.out.p2
        have HX := Lib.hid (gIdx_cast (o := o) (p := p))
        have hx := HS.out.n
        have hx2 : 0 ≤ (o : Int) / (p : Int) * ((p : Int) + 1) ∧ (o : Int) / (p : Int) * ((p : Int) + 1) ≤ 1000000000 := by rw [← HX.out]; omega
        obtain ⟨d1, d2⟩ := div_bd (o := (o : Int)) (q := (p : Int)) (by omega) (by omega) (by omega)
        obtain ⟨x1, x2⟩ := hx2
        clear hc hat hx
        go_wp2_with fail
        go_round
        case rel => exact ⟨j + 1, gIdx o p, by rw [HX.out], by go_num, by omega, Lib.hid ⟨HS.out.next, HF.out⟩⟩
        case measure => simp [intOf]; omega
      · obtain rfl : j = L.length := by omega
        have HE := Lib.hid (show o = R by have := HP.out.2; rw [List.drop_length] at this; exact this)
        clear hat
        have hB1 : Below w.heap.size w w1 := bfin (by go_grown) hb1
        go_wp2_with fail
        go_ret2
        exact ⟨ret_two (by exact_mod_cast HE.out) rfl, hB1⟩
  · have HV := Lib.hid (show ((fTimes gMod (N * N * N) (primesL N) : Nat) : Int) / (N : Int) = ((idxV 1 N : Nat) : Int) by
      rw [show idxV 1 N = fTimes gMod (N * N) (primesL N) by simp [idxV], ← hI.2.2.2]; push_cast; rfl)
    have hY1 : idxV 1 N ≤ 1000000000 := by
      rw [show idxV 1 N = fTimes gMod (N * N) (primesL N) by simp [idxV]]
      exact chk_end hI.2.2.1
    clear hI
    generalize fTimes gMod (N * N * N) (primesL N) = X at *
    generalize idxV 1 N = Y at *
    have hX : 0 ≤ (X : Int) / (N : Int) ∧ (X : Int) / (N : Int) ≤ 1000000000 := by rw [HV.out]; omega
    obtain ⟨hX0, hX1⟩ := hX
    clear hY1
    go_enter Tryz.func22, Tryz.ntmps22
    go_wp2_with fail
    refine (H1.out _).mono ?_; rintro e w' ⟨rfl, rfl⟩
    go_wp2_with fail
    refine (H2.out _).mono ?_; rintro e w' ⟨rfl, rfl⟩
    go_wp2_with fail
    refine (HM.out _).mono ?_; rintro e w1 ⟨rfl, hb1⟩
    obtain ⟨hc1, hf1⟩ := bcell hb1
    have hB1 : Below w.heap.size w w1 := bfin (by go_grown) hb1
    go_wp2_with fail
    go_ret2
    exact ⟨ret_two HV.out rfl, hB1⟩
  · rw [show idxV 2 N = fTimes gMod (N * N * N) (primesL N) by simp [idxV]]
    clear hI
    generalize fTimes gMod (N * N * N) (primesL N) = X at *
    go_enter Tryz.func22, Tryz.ntmps22
    go_wp2_with fail
    refine (H1.out _).mono ?_; rintro e w' ⟨rfl, rfl⟩
    go_wp2_with fail
    refine (H2.out _).mono ?_; rintro e w' ⟨rfl, rfl⟩
    go_wp2_with fail
    refine (HM.out _).mono ?_; rintro e w1 ⟨rfl, hb1⟩
    obtain ⟨hc1, hf1⟩ := bcell hb1
    have hB1 : Below w.heap.size w w1 := bfin (by go_grown) hb1
    go_wp2_with fail
    go_ret2
    exact ⟨rfl, hB1⟩
set_option maxRecDepth 100000 in
set_option maxHeartbeats 2000000 in
theorem sIndexOf_any (fam n : Int) (w : World) :
    Calls Tryz.prog 23 #[(.int .i64 fam), (.int .i64 n)] w fun e w' => e = .returned (.tuple #[(.int .i64 ((idxRes fam n).1)), (.int .i64 ((idxRes fam n).2))]) ∧ Below w.heap.size w w' := by
  have H1 := Lib.hid (fun W => l01In_any fam 0 2 W)
  have H2 := Lib.hid (fun W => l01In_any n 1 1000 W)
  cases hf : inB fam 0 2
  · rw [show idxRes fam n = (0, 2) by simp [idxRes, hf]]
    rw [hf] at H1
    go_enter Tryz.func23, Tryz.ntmps23
    go_wp2_with fail
    refine (H1.out _).mono ?_; rintro e w' ⟨rfl, rfl⟩
    go_wp2_with fail
    go_ret2
    exact ⟨rfl, Below.refl _ _⟩
  rw [hf] at H1
  cases hn : inB n 1 1000
  · rw [show idxRes fam n = (0, 2) by simp [idxRes, hf, hn]]
    rw [hn] at H2
    go_enter Tryz.func23, Tryz.ntmps23
    go_wp2_with fail
    refine (H1.out _).mono ?_; rintro e w' ⟨rfl, rfl⟩
    go_wp2_with fail
    refine (H2.out _).mono ?_; rintro e w' ⟨rfl, rfl⟩
    go_wp2_with fail
    go_ret2
    exact ⟨rfl, Below.refl _ _⟩
  rw [hn] at H2
  rw [show idxRes fam n = (((idxV fam n.toNat : Nat) : Int), 0) by simp [idxRes, hf, hn]]
  obtain ⟨f0, f1⟩ := inB_iff.1 hf
  obtain ⟨n0, n1⟩ := inB_iff.1 hn
  clear hf hn
  obtain ⟨N, rfl⟩ := Int.eq_ofNat_of_zero_le (show 0 ≤ n by omega)
  rw [Int.toNat_natCast]
  have N0 : 0 < N := by omega
  have N1 : N ≤ 1000 := by omega
  obtain ⟨bn1, bn2, bn3, bn4⟩ := cube_bd N1
  have hI := idxOk_of N0 N1
  simp only [idxOk, Bool.and_eq_true, decide_eq_true_eq] at hI
  rcases (show fam = 0 ∨ fam = 1 ∨ fam = 2 by omega) with rfl | rfl | rfl
  · have HC := Lib.hid (hI.1)
    have HP0 := Lib.hid (primesL_ok N0 N1)
    obtain ⟨R, hR⟩ : ∃ R, fTimes gIdx (N) (primesL N) = R := ⟨_, rfl⟩
    rw [show idxV 0 N = R by simpa [idxV] using hR]
    have HR := Lib.hid hR
    clear hR hI
    generalize primesL N = L at *
    go_enter Tryz.func23, Tryz.ntmps23
    go_wp2_with fail
    refine (H1.out _).mono ?_; rintro e w' ⟨rfl, rfl⟩
    go_wp2_with fail
    refine (H2.out _).mono ?_; rintro e w' ⟨rfl, rfl⟩
    go_wp2_with fail
    go_loop [6, 7, 8] (fun s n p => ∃ m q o : Nat, s = (.int .i64 ((o : Int))) ∧ n = (.int .i64 ((m : Int))) ∧ p = (.int .i64 ((q : Int))) ∧ 1 ≤ m ∧ m ≤ N ∧ 2 ≤ q ∧ q ≤ N + 2 ∧ Hid (∃ l, PF m q l ∧ NoDiv m q ∧ chk gIdx 1000000 o l = true ∧ fTimes gIdx o l = R)) (fun _ n p => (intOf n).toNat + (N + 3) - (intOf p).toNat)
    case atStart => exact ⟨N, 2, N, rfl, rfl, rfl, N0, Nat.le_refl _, Nat.le_refl _, by omega, Lib.hid ⟨L, HP0.out, NoDiv.two N, HC.out, HR.out⟩⟩
    case round =>
      obtain ⟨m, q, o, rfl, rfl, rfl, m0, m1, q0, q1, HR⟩ := hrel
      by_cases hm : 1 < m
      · have hqm : q ≤ m := by obtain ⟨_, _, h, _⟩ := HR.out; exact h.le hm
        by_cases hd : m % q = 0
        · have HT : Hid (∃ m' l', Strip q m m' ∧ PF m' (q + 1) l' ∧ NoDiv m' (q + 1) ∧ ChkStep gIdx 1000000 o q l' ∧ fTimes gIdx (gIdx o q) l' = R) := by
            obtain ⟨l, h1, h2, h3, h4⟩ := HR.out
            obtain ⟨m', l', rfl, hs, hpf⟩ := h1.inv_take hm hd
            exact Lib.hid ⟨m', l', hs, hpf, h2.strip hs, chk_step h3, h4⟩
          obtain ⟨M, l', HT⟩ := HT.out
          have o1 := HT.2.2.2.1.o
          have p2 := HT.2.2.2.1.p2
          have hx := HT.2.2.2.1.n
          have HT := Lib.hid HT
          have HX := Lib.hid (gIdx_cast (o := o) (p := q))
          have hx2 : 0 ≤ (o : Int) / (q : Int) * ((q : Int) + 1) ∧ (o : Int) / (q : Int) * ((q : Int) + 1) ≤ 1000000000 := by rw [← HX.out]; omega
          obtain ⟨d1, d2⟩ := div_bd (o := (o : Int)) (q := (q : Int)) (by omega) (by omega) (by omega)
          obtain ⟨x1, x2⟩ := hx2
          obtain ⟨t1, t2⟩ := mod_no hd
          clear HR hd hx
          go_wp2_with fail
          go_loop [7] (fun n => ∃ m1 : Nat, n = (.int .i64 ((m1 : Int))) ∧ 1 ≤ m1 ∧ m1 ≤ m ∧ Hid (Strip q m1 M)) (fun n => (intOf n).toNat)
          case atStart => exact ⟨m, rfl, by omega, Nat.le_refl _, Lib.hid HT.out.1⟩
          case round =>
            obtain ⟨m1, rfl, h1, h2, HS⟩ := hrel
            by_cases hd1 : m1 % q = 0
            · obtain ⟨s1, s2⟩ := mod_no hd1
              have HS2 := Lib.hid (HS.out.inv_go hd1)
              have hlt : m1 / q < m1 := Nat.div_lt_self (by omega) (by omega)
              have hge : 1 ≤ m1 / q := by
                have := Nat.div_mul_cancel (Nat.dvd_of_mod_eq_zero hd1)
                refine Nat.pos_of_ne_zero fun e => ?_
                rw [e] at this; omega
              have HQ := Lib.hid (show (m1 : Int) / (q : Int) = ((m1 / q : Nat) : Int) by push_cast; rfl)
              clear hd1
              go_wp2_with fail
              go_round
              case rel => exact ⟨m1 / q, by rw [HQ.out], hge, by omega, HS2⟩
              case measure => simp only [intOf, HQ.out]; simp; omega
            · obtain ⟨s1, s2⟩ := mod_yes hd1
              have HS2 := Lib.hid (HS.out.inv_stop hd1)
              clear hd1
              go_wp2_with fail
              go_round
              case rel => exact ⟨m1, q + 1, gIdx o q, by rw [HX.out], rfl, by go_num, h1, by omega, by omega, by omega, Lib.hid ⟨l', by rw [HS2.out]; exact HT.out.2.1, by rw [HS2.out]; exact HT.out.2.2.1, HT.out.2.2.2.1.next, HT.out.2.2.2.2⟩⟩
              case measure => simp [intOf]; omega
        · have HT : Hid (∃ l, PF m (q + 1) l ∧ NoDiv m (q + 1) ∧ chk gIdx 1000000 o l = true ∧ fTimes gIdx o l = R) := by
            obtain ⟨l, h1, h2, h3, h4⟩ := HR.out
            exact Lib.hid ⟨l, h1.inv_skip hm hd, h2.skip hd, h3, h4⟩
          obtain ⟨t1, t2⟩ := mod_yes hd
          clear HR hd
          go_wp2_with fail
          go_round
          case rel => exact ⟨m, q + 1, o, rfl, rfl, by go_num, by omega, by omega, by omega, by omega, HT⟩
          case measure => simp [intOf]; omega
      · have HE : Hid (o = R) := by
          obtain ⟨l, h1, _, _, h4⟩ := HR.out
          rw [h1.inv_done (by omega)] at h4
          exact Lib.hid h4
        have hqm : m < q := by omega
        go_wp2_with fail
        go_ret2
        exact ⟨ret_two (by exact_mod_cast HE.out) rfl, Below.refl _ _⟩
  · have HC := Lib.hid (hI.2.2.1)
    have HP0 := Lib.hid (primesL_ok N0 N1)
    obtain ⟨R, hR⟩ : ∃ R, fTimes gMod (N * N) (primesL N) = R := ⟨_, rfl⟩
    rw [show idxV 1 N = R by simpa [idxV] using hR]
    have HR := Lib.hid hR
    have HST := Lib.hid (show ((N * N : Nat) : Int) = (N : Int) * N by push_cast; rfl)
    clear hR hI
    generalize primesL N = L at *
    go_enter Tryz.func23, Tryz.ntmps23
    go_wp2_with fail
    refine (H1.out _).mono ?_; rintro e w' ⟨rfl, rfl⟩
    go_wp2_with fail
    refine (H2.out _).mono ?_; rintro e w' ⟨rfl, rfl⟩
    go_wp2_with fail
    go_loop [6, 7, 8] (fun s n p => ∃ m q o : Nat, s = (.int .i64 ((o : Int))) ∧ n = (.int .i64 ((m : Int))) ∧ p = (.int .i64 ((q : Int))) ∧ 1 ≤ m ∧ m ≤ N ∧ 2 ≤ q ∧ q ≤ N + 2 ∧ Hid (∃ l, PF m q l ∧ NoDiv m q ∧ chk gMod 1000000000 o l = true ∧ fTimes gMod o l = R)) (fun _ n p => (intOf n).toNat + (N + 3) - (intOf p).toNat)
    case atStart => exact ⟨N, 2, N * N, by rw [HST.out], rfl, rfl, N0, Nat.le_refl _, Nat.le_refl _, by omega, Lib.hid ⟨L, HP0.out, NoDiv.two N, HC.out, HR.out⟩⟩
    case round =>
      obtain ⟨m, q, o, rfl, rfl, rfl, m0, m1, q0, q1, HR⟩ := hrel
      by_cases hm : 1 < m
      · have hqm : q ≤ m := by obtain ⟨_, _, h, _⟩ := HR.out; exact h.le hm
        by_cases hd : m % q = 0
        · have HT : Hid (∃ m' l', Strip q m m' ∧ PF m' (q + 1) l' ∧ NoDiv m' (q + 1) ∧ ChkStep gMod 1000000000 o q l' ∧ fTimes gMod (gMod o q) l' = R) := by
            obtain ⟨l, h1, h2, h3, h4⟩ := HR.out
            obtain ⟨m', l', rfl, hs, hpf⟩ := h1.inv_take hm hd
            exact Lib.hid ⟨m', l', hs, hpf, h2.strip hs, chk_step h3, h4⟩
          obtain ⟨M, l', HT⟩ := HT.out
          have o1 := HT.2.2.2.1.o
          have p2 := HT.2.2.2.1.p2
          have hx := HT.2.2.2.1.n
          have HT := Lib.hid HT
          have HX := Lib.hid (gMod_cast (o := o) (p := q) (by omega))
          have hx2 : 0 ≤ (o : Int) / ((q : Int) * (q : Int)) * ((q : Int) * (q : Int) - 1) ∧ (o : Int) / ((q : Int) * (q : Int)) * ((q : Int) * (q : Int) - 1) ≤ 1000000000 := by rw [← HX.out]; omega
          obtain ⟨q5, q6⟩ := sq_bd (p := q) (by omega) p2
          obtain ⟨d1, d2⟩ := div_bd (o := (o : Int)) (by omega) (by omega) q5
          obtain ⟨x1, x2⟩ := hx2
          obtain ⟨t1, t2⟩ := mod_no hd
          clear HR hd hx
          go_wp2_with fail
          go_loop [7] (fun n => ∃ m1 : Nat, n = (.int .i64 ((m1 : Int))) ∧ 1 ≤ m1 ∧ m1 ≤ m ∧ Hid (Strip q m1 M)) (fun n => (intOf n).toNat)
          case atStart => exact ⟨m, rfl, by omega, Nat.le_refl _, Lib.hid HT.out.1⟩
          case round =>
            obtain ⟨m1, rfl, h1, h2, HS⟩ := hrel
            by_cases hd1 : m1 % q = 0
            · obtain ⟨s1, s2⟩ := mod_no hd1
              have HS2 := Lib.hid (HS.out.inv_go hd1)
              have hlt : m1 / q < m1 := Nat.div_lt_self (by omega) (by omega)
              have hge : 1 ≤ m1 / q := by
                have := Nat.div_mul_cancel (Nat.dvd_of_mod_eq_zero hd1)
                refine Nat.pos_of_ne_zero fun e => ?_
                rw [e] at this; omega
              have HQ := Lib.hid (show (m1 : Int) / (q : Int) = ((m1 / q : Nat) : Int) by push_cast; rfl)
              clear hd1
              go_wp2_with fail
              go_round
              case rel => exact ⟨m1 / q, by rw [HQ.out], hge, by omega, HS2⟩
              case measure => simp only [intOf, HQ.out]; simp; omega
            · obtain ⟨s1, s2⟩ := mod_yes hd1
              have HS2 := Lib.hid (HS.out.inv_stop hd1)
              clear hd1
              go_wp2_with fail
              go_round
              case rel => exact ⟨m1, q + 1, gMod o q, by rw [HX.out], rfl, by go_num, h1, by omega, by omega, by omega, Lib.hid ⟨l', by rw [HS2.out]; exact HT.out.2.1, by rw [HS2.out]; exact HT.out.2.2.1, HT.out.2.2.2.1.next, HT.out.2.2.2.2⟩⟩
              case measure => simp [intOf]; omega
        · have HT : Hid (∃ l, PF m (q + 1) l ∧ NoDiv m (q + 1) ∧ chk gMod 1000000000 o l = true ∧ fTimes gMod o l = R) := by
            obtain ⟨l, h1, h2, h3, h4⟩ := HR.out
            exact Lib.hid ⟨l, h1.inv_skip hm hd, h2.skip hd, h3, h4⟩
          obtain ⟨t1, t2⟩ := mod_yes hd
          clear HR hd
          go_wp2_with fail
          go_round
          case rel => exact ⟨m, q + 1, o, rfl, rfl, by go_num, by omega, by omega, by omega, by omega, HT⟩
          case measure => simp [intOf]; omega
      · have HE : Hid (o = R) := by
          obtain ⟨l, h1, _, _, h4⟩ := HR.out
          rw [h1.inv_done (by omega)] at h4
          exact Lib.hid h4
        have hqm : m < q := by omega
        go_wp2_with fail
        go_ret2
        exact ⟨ret_two (by exact_mod_cast HE.out) rfl, Below.refl _ _⟩
  · have HC := Lib.hid (hI.2.1)
    have HP0 := Lib.hid (primesL_ok N0 N1)
    obtain ⟨R, hR⟩ : ∃ R, fTimes gMod (N * N * N) (primesL N) = R := ⟨_, rfl⟩
    rw [show idxV 2 N = R by simpa [idxV] using hR]
    have HR := Lib.hid hR
    have HST := Lib.hid (show ((N * N * N : Nat) : Int) = (N : Int) * N * N by push_cast; rfl)
    clear hR hI
    generalize primesL N = L at *
    go_enter Tryz.func23, Tryz.ntmps23
    go_wp2_with fail
    refine (H1.out _).mono ?_; rintro e w' ⟨rfl, rfl⟩
    go_wp2_with fail
    refine (H2.out _).mono ?_; rintro e w' ⟨rfl, rfl⟩
    go_wp2_with fail
    go_loop [6, 7, 8] (fun s n p => ∃ m q o : Nat, s = (.int .i64 ((o : Int))) ∧ n = (.int .i64 ((m : Int))) ∧ p = (.int .i64 ((q : Int))) ∧ 1 ≤ m ∧ m ≤ N ∧ 2 ≤ q ∧ q ≤ N + 2 ∧ Hid (∃ l, PF m q l ∧ NoDiv m q ∧ chk gMod 1000000000 o l = true ∧ fTimes gMod o l = R)) (fun _ n p => (intOf n).toNat + (N + 3) - (intOf p).toNat)
    case atStart => exact ⟨N, 2, N * N * N, by rw [HST.out], rfl, rfl, N0, Nat.le_refl _, Nat.le_refl _, by omega, Lib.hid ⟨L, HP0.out, NoDiv.two N, HC.out, HR.out⟩⟩
    case round =>
      obtain ⟨m, q, o, rfl, rfl, rfl, m0, m1, q0, q1, HR⟩ := hrel
      by_cases hm : 1 < m
      · have hqm : q ≤ m := by obtain ⟨_, _, h, _⟩ := HR.out; exact h.le hm
        by_cases hd : m % q = 0
        · have HT : Hid (∃ m' l', Strip q m m' ∧ PF m' (q + 1) l' ∧ NoDiv m' (q + 1) ∧ ChkStep gMod 1000000000 o q l' ∧ fTimes gMod (gMod o q) l' = R) := by
            obtain ⟨l, h1, h2, h3, h4⟩ := HR.out
            obtain ⟨m', l', rfl, hs, hpf⟩ := h1.inv_take hm hd
            exact Lib.hid ⟨m', l', hs, hpf, h2.strip hs, chk_step h3, h4⟩
          obtain ⟨M, l', HT⟩ := HT.out
          have o1 := HT.2.2.2.1.o
          have p2 := HT.2.2.2.1.p2
          have hx := HT.2.2.2.1.n
          have HT := Lib.hid HT
          have HX := Lib.hid (gMod_cast (o := o) (p := q) (by omega))
          have hx2 : 0 ≤ (o : Int) / ((q : Int) * (q : Int)) * ((q : Int) * (q : Int) - 1) ∧ (o : Int) / ((q : Int) * (q : Int)) * ((q : Int) * (q : Int) - 1) ≤ 1000000000 := by rw [← HX.out]; omega
          obtain ⟨q5, q6⟩ := sq_bd (p := q) (by omega) p2
          obtain ⟨d1, d2⟩ := div_bd (o := (o : Int)) (by omega) (by omega) q5
          obtain ⟨x1, x2⟩ := hx2
          obtain ⟨t1, t2⟩ := mod_no hd
          clear HR hd hx
          go_wp2_with fail
          go_loop [7] (fun n => ∃ m1 : Nat, n = (.int .i64 ((m1 : Int))) ∧ 1 ≤ m1 ∧ m1 ≤ m ∧ Hid (Strip q m1 M)) (fun n => (intOf n).toNat)
          case atStart => exact ⟨m, rfl, by omega, Nat.le_refl _, Lib.hid HT.out.1⟩
          case round =>
            obtain ⟨m1, rfl, h1, h2, HS⟩ := hrel
            by_cases hd1 : m1 % q = 0
            · obtain ⟨s1, s2⟩ := mod_no hd1
              have HS2 := Lib.hid (HS.out.inv_go hd1)
              have hlt : m1 / q < m1 := Nat.div_lt_self (by omega) (by omega)
              have hge : 1 ≤ m1 / q := by
                have := Nat.div_mul_cancel (Nat.dvd_of_mod_eq_zero hd1)
                refine Nat.pos_of_ne_zero fun e => ?_
                rw [e] at this; omega
              have HQ := Lib.hid (show (m1 : Int) / (q : Int) = ((m1 / q : Nat) : Int) by push_cast; rfl)
              clear hd1
              go_wp2_with fail
              go_round
              case rel => exact ⟨m1 / q, by rw [HQ.out], hge, by omega, HS2⟩
              case measure => simp only [intOf, HQ.out]; simp; omega
            · obtain ⟨s1, s2⟩ := mod_yes hd1
              have HS2 := Lib.hid (HS.out.inv_stop hd1)
              clear hd1
              go_wp2_with fail
              go_round
              case rel => exact ⟨m1, q + 1, gMod o q, by rw [HX.out], rfl, by go_num, h1, by omega, by omega, by omega, Lib.hid ⟨l', by rw [HS2.out]; exact HT.out.2.1, by rw [HS2.out]; exact HT.out.2.2.1, HT.out.2.2.2.1.next, HT.out.2.2.2.2⟩⟩
              case measure => simp [intOf]; omega
        · have HT : Hid (∃ l, PF m (q + 1) l ∧ NoDiv m (q + 1) ∧ chk gMod 1000000000 o l = true ∧ fTimes gMod o l = R) := by
            obtain ⟨l, h1, h2, h3, h4⟩ := HR.out
            exact Lib.hid ⟨l, h1.inv_skip hm hd, h2.skip hd, h3, h4⟩
          obtain ⟨t1, t2⟩ := mod_yes hd
          clear HR hd
          go_wp2_with fail
          go_round
          case rel => exact ⟨m, q + 1, o, rfl, rfl, by go_num, by omega, by omega, by omega, by omega, HT⟩
          case measure => simp [intOf]; omega
      · have HE : Hid (o = R) := by
          obtain ⟨l, h1, _, _, h4⟩ := HR.out
          rw [h1.inv_done (by omega)] at h4
          exact Lib.hid h4
        have hqm : m < q := by omega
        go_wp2_with fail
        go_ret2
        exact ⟨ret_two (by exact_mod_cast HE.out) rfl, Below.refl _ _⟩
end Go.Proofs.YtjkemnnkgihefaaGreat
