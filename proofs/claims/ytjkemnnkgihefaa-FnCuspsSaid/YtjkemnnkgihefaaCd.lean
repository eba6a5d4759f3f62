/- Contracts: prime divisors. -/
import Derived.Test.YtjkemnnkgihefaaR1
import Derived.Test.YtjkemnnkgihefaaCa
import Derived.Test.YtjkemnnkgihefaaPlain
namespace Go.Proofs.Ytjkemnnkgihefaa
open Go.RowKit
theorem elI : Elem Try.prog 54 2 (.int .i64 0) 1 8 := elem_of Try.underlying54 (by kernel_rfl) rfl (by omega) (by omega)
def castL (l : List Nat) : List Int := l.map fun p : Nat => (p : Int)
theorem castL_len (l : List Nat) : (castL l).length = l.length := by simp [castL]
theorem castL_snoc (l : List Nat) (p : Nat) : castL (l ++ [p]) = castL l ++ [(p : Int)] := by simp [castL]
theorem mod_no {m q : Nat} (h : m % q = 0) : ((m : Int) % (q : Int) != 0) = false ∧ ((m : Int) % (q : Int) == 0) = true := by
  have e : (m : Int) % (q : Int) = 0 := by exact_mod_cast h
  simp [e]
theorem mod_yes {m q : Nat} (h : m % q ≠ 0) : ((m : Int) % (q : Int) != 0) = true ∧ ((m : Int) % (q : Int) == 0) = false := by
  have e : (m : Int) % (q : Int) ≠ 0 := by exact_mod_cast h
  simp [e]
theorem PF.inv_take {m q : Nat} {l : List Nat} (h : PF m q l) (h1 : 1 < m) (h2 : m % q = 0) : ∃ m' l', l = q :: l' ∧ Strip q m m' ∧ PF m' (q + 1) l' := by
  cases h with
  | done h => omega
  | skip _ h3 => exact absurd h2 h3
  | take _ _ h5 h6 => exact ⟨_, _, rfl, h5, h6⟩
theorem PF.inv_skip {m q : Nat} {l : List Nat} (h : PF m q l) (h1 : 1 < m) (h2 : m % q ≠ 0) : PF m (q + 1) l := by
  cases h with
  | done h => omega
  | skip _ _ h3 => exact h3
  | take _ h4 => exact absurd h4 h2
theorem PF.inv_done {m q : Nat} {l : List Nat} (h : PF m q l) (h1 : m ≤ 1) : l = [] := by
  cases h with
  | done h => rfl
  | skip h => omega
  | take h => omega
theorem Strip.inv_go {p n m : Nat} (h : Strip p n m) (h1 : n % p = 0) : Strip p (n / p) m := by
  cases h with
  | stop h => exact absurd h1 h
  | go _ h => exact h
theorem Strip.inv_stop {p n m : Nat} (h : Strip p n m) (h1 : n % p ≠ 0) : n = m := by
  cases h with
  | stop h => rfl
  | go h => exact absurd h h1
/-- What holds at the head of a round: the primes found, those still to come. -/
structure PrInv (w wr : World) (v : Value) (L : List Nat) (m q : Nat) (acc l : List Nat) : Prop where
  own : wr.ownsRow w.heap.size 2 1 v acc.length (ints (castL acc))
  eq : L = acc ++ l
  pf : PF m q l
  nd : NoDiv m q
theorem PrInv.grow {w wr w2 : World} {v v' : Value} {L : List Nat} {m q m' : Nat} {acc l l' : List Nat} (_h : PrInv w wr v L m q acc l) (hL : L = acc ++ q :: l') (hp : PF m' (q + 1) l') (hn : NoDiv m' (q + 1))
    (ho : w2.ownsRow w.heap.size 2 1 v' (acc.length + 1) (ints (castL acc) ++ [.int .i64 (q : Int)])) : PrInv w w2 v' L m' (q + 1) (acc ++ [q]) l' :=
  ⟨by rw [castL_snoc]; simpa [ints] using ho, by rw [hL]; simp, hp, hn⟩
set_option maxRecDepth 100000 in
set_option maxHeartbeats 2000000 in
theorem primesOf_any (N : Nat) (w : World) (n0 : 0 < N) (n1 : N ≤ 1000) :
    Calls Try.prog 45 #[(.int .i64 ((N : Int)))] w fun e w' => ∃ v, e = .returned v ∧ w'.ownsRow w.heap.size 2 1 v (primesL N).length (ints (castL (primesL N))) ∧ Below w.heap.size w w' := by
  have HP := Lib.hid (primesL_ok n0 n1)
  generalize primesL N = L at *
  go_enter Try.func45, Try.ntmps45
  go_wp2_with fail
  go_loopw [0, 3, 4] (fun n v p wr => ∃ m q : Nat, n = (.int .i64 ((m : Int))) ∧ p = (.int .i64 ((q : Int))) ∧ 1 ≤ m ∧ m ≤ N ∧ 2 ≤ q ∧ q ≤ N + 1 ∧ Hid (∃ acc l, PrInv w wr v L m q acc l ∧ acc.length ≤ q) ∧ Below w.heap.size w wr) (fun n _ p _ => (intOf n).toNat + (N + 2) - (intOf p).toNat)
  case atStart => exact ⟨N, 2, rfl, rfl, n0, Nat.le_refl _, Nat.le_refl _, by omega, Lib.hid ⟨[], L, ⟨World.ownsRow_lit w #[] 0 (Nat.le_refl _) (by simp [maxLen]) rfl, rfl, HP.out, NoDiv.two N⟩, by simp⟩, by go_grown⟩
  case round =>
    obtain ⟨m, q, rfl, rfl, m0, m1, q0, q1, HR, hb⟩ := hrel
    have hsz := hb.size
    by_cases hm : 1 < m
    · by_cases hj : (m : Int) < (q : Int) * (q : Int)
      · have hjN : m < q * q := by exact_mod_cast hj
        have HT : Hid (∃ acc m' l', PrInv w wr u3 L m m acc (m :: l') ∧ acc.length ≤ q ∧ Strip m m m' ∧ PF m' (m + 1) l' ∧ NoDiv m' (m + 1)) := by
          obtain ⟨acc, l, h, hal⟩ := HR.out
          have hp := h.pf.jumped hm q0 h.nd hjN
          have hnd : NoDiv m m := fun d h2 hd => h.nd.prime hjN d h2 hd
          obtain ⟨m', l', rfl, hs, hpf⟩ := hp.inv_take hm (Nat.mod_self m)
          exact Lib.hid ⟨acc, m', l', ⟨h.own, h.eq, hp, hnd⟩, hal, hs, hpf, hnd.strip hs⟩
        obtain ⟨acc, M, l', HT⟩ := HT.out
        have hal := HT.2.1
        have hqm : q ≤ m := by obtain ⟨_, _, h, _⟩ := HR.out; exact h.nd.le hm
        have HT := Lib.hid HT
        obtain ⟨t1, t2⟩ := mod_no (Nat.mod_self m)
        have hqq := mul_bd (a := (q : Int)) (b := (q : Int)) (A := 1001) (B := 1001) (by omega) (by omega) (by omega) (by omega)
        obtain ⟨hq0, hq1⟩ := hqq
        clear HR
        go_wp2_with (at_builtin; refine app_one elI rfl _ _ rfl rfl rfl (by simp) (HT.out.1.own) (hb) rfl (by intro u hu; simp at hu; first | (subst hu; rfl) | (rcases hu with rfl | rfl <;> rfl) | (rcases hu with rfl | rfl | rfl <;> rfl) | (rcases hu with rfl | rfl | rfl | rfl <;> rfl)) (hsz) (by omega) ?_; intro v' w2 hown2 hb2 hg2; have HO2 := Lib.hid hown2; clear hown2 hg2)
        go_loopw [0] (fun n wr' => ∃ m1 : Nat, n = (.int .i64 ((m1 : Int))) ∧ 1 ≤ m1 ∧ m1 ≤ m ∧ Hid (Strip m m1 M) ∧ w2 = wr') (fun n _ => (intOf n).toNat)
        case atStart => exact ⟨m, rfl, by omega, Nat.le_refl _, Lib.hid HT.out.2.2.1, rfl⟩
        case round =>
          obtain ⟨m1, rfl, h1, h2, HS, rfl⟩ := hrel
          by_cases hd1 : m1 % m = 0
          · obtain ⟨s1, s2⟩ := mod_no hd1
            have HS2 := Lib.hid (HS.out.inv_go hd1)
            have hpos := HS2.out
            have hlt : m1 / m < m1 := Nat.div_lt_self (by omega) (by omega)
            have hge : 1 ≤ m1 / m := by
              have := Nat.div_mul_cancel (Nat.dvd_of_mod_eq_zero hd1)
              refine Nat.pos_of_ne_zero fun e => ?_
              rw [e] at this; omega
            have HQ := Lib.hid (show (m1 : Int) / (m : Int) = ((m1 / m : Nat) : Int) by push_cast; rfl)
            clear hpos hd1
            go_wp2_with fail
            go_roundw
            case rel => exact ⟨m1 / m, by rw [HQ.out], hge, by omega, HS2, trivial⟩
            case measure => simp only [intOf, HQ.out]; simp; omega
          · obtain ⟨s1, s2⟩ := mod_yes hd1
            have HS2 := Lib.hid (HS.out.inv_stop hd1)
            clear hd1
            go_wp2_with fail
            go_roundw
            case rel => exact ⟨m1, m + 1, rfl, by go_num, h1, by omega, by omega, by omega, Lib.hid ⟨acc ++ [m], l', HT.out.1.grow HT.out.1.eq (by rw [HS2.out]; exact HT.out.2.2.2.1) (by rw [HS2.out]; exact HT.out.2.2.2.2) HO2.out, by simp; omega⟩, hb2⟩
            case measure => simp [intOf]; omega
      · have hjN : ¬ m < q * q := fun h => hj (by exact_mod_cast h)
        have hqq := mul_bd (a := (q : Int)) (b := (q : Int)) (A := 1001) (B := 1001) (by omega) (by omega) (by omega) (by omega)
        obtain ⟨hq0, hq1⟩ := hqq
        have hqm : q ≤ m := by obtain ⟨_, _, h, _⟩ := HR.out; exact h.nd.le hm
        by_cases hd : m % q = 0
        · have HT : Hid (∃ acc m' l', PrInv w wr u3 L m q acc (q :: l') ∧ acc.length ≤ q ∧ Strip q m m' ∧ PF m' (q + 1) l' ∧ NoDiv m' (q + 1)) := by
            obtain ⟨acc, l, h, hal⟩ := HR.out
            obtain ⟨m', l', rfl, hs, hpf⟩ := h.pf.inv_take hm hd
            exact Lib.hid ⟨acc, m', l', h, hal, hs, hpf, h.nd.strip hs⟩
          obtain ⟨acc, M, l', HT⟩ := HT.out
          have hal := HT.2.1
          have HT := Lib.hid HT
          obtain ⟨t1, t2⟩ := mod_no hd
          clear HR hjN hd
          go_wp2_with (at_builtin; refine app_one elI rfl _ _ rfl rfl rfl (by simp) (HT.out.1.own) (hb) rfl (by intro u hu; simp at hu; first | (subst hu; rfl) | (rcases hu with rfl | rfl <;> rfl) | (rcases hu with rfl | rfl | rfl <;> rfl) | (rcases hu with rfl | rfl | rfl | rfl <;> rfl)) (hsz) (by omega) ?_; intro v' w2 hown2 hb2 hg2; have HO2 := Lib.hid hown2; clear hown2 hg2)
          go_loopw [0] (fun n wr' => ∃ m1 : Nat, n = (.int .i64 ((m1 : Int))) ∧ 1 ≤ m1 ∧ m1 ≤ m ∧ Hid (Strip q m1 M) ∧ w2 = wr') (fun n _ => (intOf n).toNat)
          case atStart => exact ⟨m, rfl, by omega, Nat.le_refl _, Lib.hid HT.out.2.2.1, rfl⟩
          case round =>
            obtain ⟨m1, rfl, h1, h2, HS, rfl⟩ := hrel
            by_cases hd1 : m1 % q = 0
            · obtain ⟨s1, s2⟩ := mod_no hd1
              have HS2 := Lib.hid (HS.out.inv_go hd1)
              have hpos := HS2.out
              have hlt : m1 / q < m1 := Nat.div_lt_self (by omega) (by omega)
              have hge : 1 ≤ m1 / q := by
                have := Nat.div_mul_cancel (Nat.dvd_of_mod_eq_zero hd1)
                refine Nat.pos_of_ne_zero fun e => ?_
                rw [e] at this; omega
              have HQ := Lib.hid (show (m1 : Int) / (q : Int) = ((m1 / q : Nat) : Int) by push_cast; rfl)
              clear hpos hd1
              go_wp2_with fail
              go_roundw
              case rel => exact ⟨m1 / q, by rw [HQ.out], hge, by omega, HS2, trivial⟩
              case measure => simp only [intOf, HQ.out]; simp; omega
            · obtain ⟨s1, s2⟩ := mod_yes hd1
              have HS2 := Lib.hid (HS.out.inv_stop hd1)
              clear hd1
              go_wp2_with fail
              go_roundw
              case rel => exact ⟨m1, q + 1, rfl, by go_num, h1, by omega, by omega, by omega, Lib.hid ⟨acc ++ [q], l', HT.out.1.grow HT.out.1.eq (by rw [HS2.out]; exact HT.out.2.2.2.1) (by rw [HS2.out]; exact HT.out.2.2.2.2) HO2.out, by simp; omega⟩, hb2⟩
              case measure => simp [intOf]; omega
        · have HT : Hid (∃ acc l, PrInv w wr u3 L m (q + 1) acc l ∧ acc.length ≤ q + 1) := by
            obtain ⟨acc, l, h, hal⟩ := HR.out
            exact Lib.hid ⟨acc, l, ⟨h.own, h.eq, h.pf.inv_skip hm hd, h.nd.skip hd⟩, by omega⟩
          obtain ⟨t1, t2⟩ := mod_yes hd
          clear HR hjN hd
          go_wp2_with fail
          go_roundw
          case rel => exact ⟨m, q + 1, rfl, by go_num, by omega, by omega, by omega, by omega, Lib.hid HT.out, hb⟩
          case measure => simp [intOf]; omega
    · have HE : Hid (∃ acc, wr.ownsRow w.heap.size 2 1 u3 acc.length (ints (castL acc)) ∧ L = acc) := by
        obtain ⟨acc, l, h, _⟩ := HR.out
        have e := h.pf.inv_done (by omega)
        subst e
        exact Lib.hid ⟨acc, h.own, by simpa using h.eq⟩
      go_wp2_with fail
      go_ret
      obtain ⟨acc, h1, h2⟩ := HE.out
      exact ⟨_, rfl, by rw [h2]; exact h1, hb⟩
end Go.Proofs.Ytjkemnnkgihefaa
/- Contracts: what is counted with prime divisors; IndexOf and its law. -/
namespace Go.Proofs.Ytjkemnnkgihefaa
open Go.RowKit
theorem ret_two {a b x y : Int} (h1 : x = a) (h2 : y = b) : Ending.returned (.tuple #[(.int .i64 x), (.int .i64 y)]) = .returned (.tuple #[(.int .i64 a), (.int .i64 b)]) := by rw [h1, h2]
theorem chk_end {g : Nat → Nat → Nat} {B : Nat} : ∀ {l : List Nat} {o : Nat}, chk g B o l = true → fTimes g o l ≤ B
  | [], _, h => chk_le h
  | _ :: l, _, h => chk_end (l := l) (chk_step h).next
theorem castL_at {l : List Nat} {j : Nat} (h : j < l.length) : (ints (castL l))[j]? = some (.int .i64 ((l[j] : Nat) : Int)) := by
  simp [ints, castL, List.getElem?_eq_getElem h]
theorem gMod_cast {o p : Nat} (hp : 1 ≤ p) : ((gMod o p : Nat) : Int) = (o : Int) / ((p : Int) * (p : Int)) * ((p : Int) * (p : Int) - 1) := by
  unfold gMod
  have : 1 ≤ p * p := Nat.mul_le_mul hp hp
  push_cast
  rw [Int.natCast_sub this]; push_cast; rfl
theorem gIdx_cast {o p : Nat} : ((gIdx o p : Nat) : Int) = (o : Int) / (p : Int) * ((p : Int) + 1) := by
  unfold gIdx; push_cast; rfl
theorem gPhi_cast {o p : Nat} (hp : 1 ≤ p) : ((gPhi o p : Nat) : Int) = (o : Int) / (p : Int) * ((p : Int) - 1) := by
  unfold gPhi; push_cast; rw [Int.natCast_sub hp]; push_cast; rfl
theorem sq_bd {p : Nat} (h1 : 1 ≤ p) (h2 : p ≤ 1000) : 1 ≤ (p : Int) * (p : Int) ∧ (p : Int) * (p : Int) ≤ 1000000 := by
  have e := mul_bd (a := (p : Int)) (b := (p : Int)) (A := 1000) (B := 1000) (by omega) (by omega) (by omega) (by omega)
  have e2 := Int.mul_le_mul (show (1 : Int) ≤ p by omega) (show (1 : Int) ≤ p by omega) (by omega) (by omega)
  omega
theorem div_bd {o q : Int} (h0 : 0 ≤ o) (h1 : o ≤ 1000000000) (hq : 1 ≤ q) : 0 ≤ o / q ∧ o / q ≤ 1000000000 := ⟨Int.ediv_nonneg h0 (by omega), (ediv_bd (K := 1000000000) (by omega) (by omega) h1).2⟩
theorem cube_bd {N : Nat} (n1 : N ≤ 1000) : (N : Int) * N ≤ 1000000 ∧ 0 ≤ (N : Int) * N ∧ (N : Int) * N * N ≤ 1000000000 ∧ 0 ≤ (N : Int) * N * N := by
  have h1 := Int.mul_le_mul (show (N : Int) ≤ 1000 by omega) (show (N : Int) ≤ 1000 by omega) (by omega) (by omega)
  have h2 := Int.mul_le_mul (show (N : Int) * N ≤ 1000000 by omega) (show (N : Int) ≤ 1000 by omega) (by omega) (by omega)
  have h3 : 0 ≤ (N : Int) * N := Int.mul_nonneg (by omega) (by omega)
  have h4 : 0 ≤ (N : Int) * N * N := Int.mul_nonneg h3 (by omega)
  exact ⟨by omega, h3, by omega, h4⟩
set_option maxRecDepth 100000 in
set_option maxHeartbeats 2000000 in
theorem countModulo_any (N : Nat) (w : World) (n0 : 0 < N) (n1 : N ≤ 1000) :
    Calls Try.prog 50 #[(.int .i64 ((N : Int)))] w fun e w' => e = .returned (.int .i64 (((fTimes gMod (N * N * N) (primesL N) : Nat) : Int))) ∧ Below w.heap.size w w' := by
  have hI := idxOk_of n0 n1
  simp only [idxOk, Bool.and_eq_true] at hI
  have HC := Lib.hid hI.2.1
  have HU := Lib.hid (fun W => primesOf_any N W n0 n1)
  obtain ⟨b1, b2, b3, b4⟩ := cube_bd n1
  have HC3 := Lib.hid (show ((N * N * N : Nat) : Int) = (N : Int) * N * N by push_cast; rfl)
  obtain ⟨R, hR⟩ : ∃ R, fTimes gMod (N * N * N) (primesL N) = R := ⟨_, rfl⟩
  have HR := Lib.hid hR
  rw [hR]
  clear hR hI
  generalize primesL N = L at *
  go_enter Try.func50, Try.ntmps50
  go_wp2_with fail
  refine (HU.out _).mono ?_; rintro e w1 ⟨v, rfl, hown, hb1⟩
  obtain ⟨A, cap, rfl, hcap, hmax, hat⟩ := own_view hown
  unfold maxLen at hmax
  clear hown
  go_wp2_with fail
  go_loop [3, 14] (fun s i => ∃ j o : Nat, s = (.int .i64 ((o : Int))) ∧ i = (.int .i64 ((j : Int))) ∧ j ≤ L.length ∧ Hid (chk gMod 1000000000 o (L.drop j) = true ∧ fTimes gMod o (L.drop j) = R)) (fun _ i => L.length - (intOf i).toNat)
  case atStart => exact ⟨0, N * N * N, by rw [HC3.out], rfl, Nat.zero_le _, Lib.hid ⟨HC.out, HR.out⟩⟩
  case round =>
    obtain ⟨j, o, rfl, rfl, hj, HP⟩ := hrel
    by_cases hlt : j < L.length
    · obtain ⟨b, rfl, -, hbl, hc, -⟩ := hat (by omega)
      have hcj := hc j _ (castL_at hlt)
      have HD := Lib.hid (List.drop_eq_getElem_cons hlt)
      generalize L[j] = p at hcj HD
      have HS : Hid (ChkStep gMod 1000000000 o p (L.drop (j + 1))) := Lib.hid (chk_step (by rw [← HD.out]; exact HP.out.1))
      have HF : Hid (fTimes gMod (gMod o p) (L.drop (j + 1)) = R) := Lib.hid (by have := HP.out.2; rw [HD.out] at this; exact this)
      have o1 := HS.out.o
      have p1 := HS.out.p1
      have p2 := HS.out.p2
      have HX := Lib.hid (gMod_cast (o := o) p1)
      have hx := HS.out.n
      have hx2 : 0 ≤ (o : Int) / ((p : Int) * (p : Int)) * ((p : Int) * (p : Int) - 1) ∧ (o : Int) / ((p : Int) * (p : Int)) * ((p : Int) * (p : Int) - 1) ≤ 1000000000 := by rw [← HX.out]; omega
      obtain ⟨q1, q2⟩ := sq_bd p1 p2
      obtain ⟨d1, d2⟩ := div_bd (o := (o : Int)) (by omega) (by omega) q1
      obtain ⟨x1, x2⟩ := hx2
      clear hc hat hx
      go_wp2_with fail
      go_round
      case rel => exact ⟨j + 1, gMod o p, by rw [HX.out], by go_num, by omega, Lib.hid ⟨HS.out.next, HF.out⟩⟩
      case measure => simp [intOf]; omega
    · obtain rfl : j = L.length := by omega
      have HE := Lib.hid (show o = R by have := HP.out.2; rw [List.drop_length] at this; exact this)
      clear hat
      have hB1 : Below w.heap.size w w1 := bfin (by go_grown) hb1
      go_wp2_with fail
      go_ret
      exact ⟨ret_int (by have := HE.out; exact_mod_cast this), hB1⟩
def idxV (fam : Int) (N : Nat) : Nat := if fam = 0 then fTimes gIdx N (primesL N) else if fam = 1 then fTimes gMod (N * N) (primesL N) else fTimes gMod (N * N * N) (primesL N)
def idxRes (fam n : Int) : Int × Int := if (inB fam 0 2 && inB n 1 1000) = true then (((idxV fam n.toNat : Nat) : Int), 0) else (0, 2)
set_option maxRecDepth 100000 in
set_option maxHeartbeats 2000000 in
theorem IndexOf_any (fam n : Int) (w : World) :
    Calls Try.prog 19 #[(.int .i64 fam), (.int .i64 n)] w fun e w' => e = .returned (.tuple #[(.int .i64 ((idxRes fam n).1)), (.int .i64 ((idxRes fam n).2))]) ∧ Below w.heap.size w w' := by
  have H1 := Lib.hid (fun W => within_any fam 0 2 W)
  have H2 := Lib.hid (fun W => within_any n 1 1000 W)
  cases hf : inB fam 0 2
  · rw [show idxRes fam n = (0, 2) by simp [idxRes, hf]]
    rw [hf] at H1
    go_enter Try.func19, Try.ntmps19
    go_wp2_with fail
    refine (H1.out _).mono ?_; rintro e w' ⟨rfl, rfl⟩
    go_wp2_with fail
    go_ret2
    exact ⟨rfl, Below.refl _ _⟩
  rw [hf] at H1
  cases hn : inB n 1 1000
  · rw [show idxRes fam n = (0, 2) by simp [idxRes, hf, hn]]
    rw [hn] at H2
    go_enter Try.func19, Try.ntmps19
    go_wp2_with fail
    refine (H1.out _).mono ?_; rintro e w' ⟨rfl, rfl⟩
    go_wp2_with fail
    refine (H2.out _).mono ?_; rintro e w' ⟨rfl, rfl⟩
    go_wp2_with fail
    go_ret2
    exact ⟨rfl, Below.refl _ _⟩
  rw [hn] at H2
  rw [show idxRes fam n = (((idxV fam n.toNat : Nat) : Int), 0) by simp [idxRes, hf, hn]]
  obtain ⟨f0, f1⟩ := inB_iff.1 hf
  obtain ⟨n0, n1⟩ := inB_iff.1 hn
  clear hf hn
  obtain ⟨N, rfl⟩ := Int.eq_ofNat_of_zero_le (show 0 ≤ n by omega)
  rw [Int.toNat_natCast]
  have N0 : 0 < N := by omega
  have N1 : N ≤ 1000 := by omega
  have hI := idxOk_of N0 N1
  simp only [idxOk, Bool.and_eq_true, decide_eq_true_eq] at hI
  have HM := Lib.hid (fun W => countModulo_any N W N0 N1)
  rcases (show fam = 0 ∨ fam = 1 ∨ fam = 2 by omega) with rfl | rfl | rfl
  · have HC := Lib.hid hI.1
    have HU := Lib.hid (fun W => primesOf_any N W N0 N1)
    obtain ⟨R, hR⟩ : ∃ R, fTimes gIdx N (primesL N) = R := ⟨_, rfl⟩
    rw [show idxV 0 N = R by simpa [idxV] using hR]
    have HR := Lib.hid hR
    clear hR hI HM
    generalize primesL N = L at *
    go_enter Try.func19, Try.ntmps19
    go_wp2_with fail
    refine (H1.out _).mono ?_; rintro e w' ⟨rfl, rfl⟩
    go_wp2_with fail
    refine (H2.out _).mono ?_; rintro e w' ⟨rfl, rfl⟩
    go_wp2_with fail
    refine (HU.out _).mono ?_; rintro e w1 ⟨v, rfl, hown, hb1⟩
    obtain ⟨A, cap, rfl, hcap, hmax, hat⟩ := own_view hown
    unfold maxLen at hmax
    clear hown
    go_wp2_with fail
    go_loop [6, 32] (fun s i => ∃ j o : Nat, s = (.int .i64 ((o : Int))) ∧ i = (.int .i64 ((j : Int))) ∧ j ≤ L.length ∧ Hid (chk gIdx 1000000 o (L.drop j) = true ∧ fTimes gIdx o (L.drop j) = R)) (fun _ i => L.length - (intOf i).toNat)
    case atStart => exact ⟨0, N, rfl, rfl, Nat.zero_le _, Lib.hid ⟨HC.out, HR.out⟩⟩
    case round =>
      obtain ⟨j, o, rfl, rfl, hj, HP⟩ := hrel
      by_cases hlt : j < L.length
      · obtain ⟨b, rfl, -, hbl, hc, -⟩ := hat (by omega)
        have hcj := hc j _ (castL_at hlt)
        have HD := Lib.hid (List.drop_eq_getElem_cons hlt)
        generalize L[j] = p at hcj HD
        have HS : Hid (ChkStep gIdx 1000000 o p (L.drop (j + 1))) := Lib.hid (chk_step (by rw [← HD.out]; exact HP.out.1))
        have HF : Hid (fTimes gIdx (gIdx o p) (L.drop (j + 1)) = R) := Lib.hid (by have := HP.out.2; rw [HD.out] at this; exact this)
        have o1 := HS.out.o
        have p1 := HS.out.p1
        have p2 := HS.out.p2
        have HX := Lib.hid (gIdx_cast (o := o) (p := p))
        have hx := HS.out.n
        have hx2 : 0 ≤ (o : Int) / (p : Int) * ((p : Int) + 1) ∧ (o : Int) / (p : Int) * ((p : Int) + 1) ≤ 1000000000 := by rw [← HX.out]; omega
        obtain ⟨d1, d2⟩ := div_bd (o := (o : Int)) (q := (p : Int)) (by omega) (by omega) (by omega)
        obtain ⟨x1, x2⟩ := hx2
        clear hc hat hx
        go_wp2_with fail
        go_round
        case rel => exact ⟨j + 1, gIdx o p, by rw [HX.out], by go_num, by omega, Lib.hid ⟨HS.out.next, HF.out⟩⟩
        case measure => simp [intOf]; omega
      · obtain rfl : j = L.length := by omega
        have HE := Lib.hid (show o = R by have := HP.out.2; rw [List.drop_length] at this; exact this)
        clear hat
        have hB1 : Below w.heap.size w w1 := bfin (by go_grown) hb1
        go_wp2_with fail
        go_ret2
        exact ⟨ret_two (by exact_mod_cast HE.out) rfl, hB1⟩
  · have HV := Lib.hid (show ((fTimes gMod (N * N * N) (primesL N) : Nat) : Int) / (N : Int) = ((idxV 1 N : Nat) : Int) by
      rw [show idxV 1 N = fTimes gMod (N * N) (primesL N) by simp [idxV], ← hI.2.2.2]; push_cast; rfl)
    have hY1 : idxV 1 N ≤ 1000000000 := by
      rw [show idxV 1 N = fTimes gMod (N * N) (primesL N) by simp [idxV]]
      exact chk_end hI.2.2.1
    clear hI
    generalize fTimes gMod (N * N * N) (primesL N) = X at *
    generalize idxV 1 N = Y at *
    have hX : 0 ≤ (X : Int) / (N : Int) ∧ (X : Int) / (N : Int) ≤ 1000000000 := by rw [HV.out]; omega
    obtain ⟨hX0, hX1⟩ := hX
    clear hY1
    go_enter Try.func19, Try.ntmps19
    go_wp2_with fail
    refine (H1.out _).mono ?_; rintro e w' ⟨rfl, rfl⟩
    go_wp2_with fail
    refine (H2.out _).mono ?_; rintro e w' ⟨rfl, rfl⟩
    go_wp2_with fail
    refine (HM.out _).mono ?_; rintro e w1 ⟨rfl, hb1⟩
    obtain ⟨hc1, hf1⟩ := bcell hb1
    have hB1 : Below w.heap.size w w1 := bfin (by go_grown) hb1
    go_wp2_with fail
    go_ret2
    exact ⟨ret_two HV.out rfl, hB1⟩
  · rw [show idxV 2 N = fTimes gMod (N * N * N) (primesL N) by simp [idxV]]
    clear hI
    generalize fTimes gMod (N * N * N) (primesL N) = X at *
    go_enter Try.func19, Try.ntmps19
    go_wp2_with fail
    refine (H1.out _).mono ?_; rintro e w' ⟨rfl, rfl⟩
    go_wp2_with fail
    refine (H2.out _).mono ?_; rintro e w' ⟨rfl, rfl⟩
    go_wp2_with fail
    refine (HM.out _).mono ?_; rintro e w1 ⟨rfl, hb1⟩
    obtain ⟨hc1, hf1⟩ := bcell hb1
    have hB1 : Below w.heap.size w w1 := bfin (by go_grown) hb1
    go_wp2_with fail
    go_ret2
    exact ⟨rfl, hB1⟩
end Go.Proofs.Ytjkemnnkgihefaa
/- Contracts: the number of cusps; the law. -/
namespace Go.Proofs.Ytjkemnnkgihefaa
open Go.RowKit
def phiN (m : Nat) : Nat := phiC m m
def cuspS (N : Nat) : Nat → Nat
  | 0 => 0
  | d + 1 => cuspS N d + if N % (d + 1) = 0 then phiN (Nat.gcd (d + 1) (N / (d + 1))) else 0
theorem cuspS_yes {N d : Nat} (h : N % (d + 1) = 0) : cuspS N (d + 1) = cuspS N d + phiN (Nat.gcd (d + 1) (N / (d + 1))) := by simp [cuspS, h]
theorem cuspS_no {N d : Nat} (h : N % (d + 1) ≠ 0) : cuspS N (d + 1) = cuspS N d := by simp [cuspS, h]
theorem phiC_le (m k : Nat) : phiC m k ≤ k := by
  induction k with
  | zero => simp [phiC]
  | succ k ih => unfold phiC; split <;> omega
structure GcdBd (N d : Nat) : Prop where
  g0 : 0 < Nat.gcd d (N / d)
  g1 : Nat.gcd d (N / d) ≤ 31
theorem gcd_small {N d : Nat} (h0 : 0 < N) (h1 : N ≤ 1000) (hd : 0 < d) (h : N % d = 0) : GcdBd N d := by
  have hq : N / d * d = N := Nat.div_mul_cancel (Nat.dvd_of_mod_eq_zero h)
  have hp : 0 < N / d := Nat.pos_of_ne_zero fun e => by rw [e] at hq; omega
  have g0 : 0 < Nat.gcd d (N / d) := Nat.gcd_pos_of_pos_left _ hd
  have h3 := Nat.le_of_dvd hd (Nat.gcd_dvd_left d (N / d))
  have h4 := Nat.le_of_dvd hp (Nat.gcd_dvd_right d (N / d))
  refine ⟨g0, Nat.le_of_not_lt fun hlt => ?_⟩
  have h5 := Nat.mul_le_mul (Nat.le_trans hlt h4) (Nat.le_trans hlt h3)
  rw [hq] at h5; omega
theorem cuspS_le {N : Nat} (h0 : 0 < N) (h1 : N ≤ 1000) (d : Nat) : cuspS N d ≤ 31 * d := by
  induction d with
  | zero => simp [cuspS]
  | succ d ih =>
    unfold cuspS
    split
    · rename_i h
      have := (gcd_small h0 h1 (by omega) h).g1
      have := phiC_le (Nat.gcd (d + 1) (N / (d + 1))) (Nat.gcd (d + 1) (N / (d + 1)))
      unfold phiN; omega
    · omega
def cuspRes (n : Int) : Int × Int := if inB n 1 1000 = true then (((cuspS n.toNat n.toNat : Nat) : Int), 0) else (0, 2)
theorem igcd_nat (a b : Nat) : (Int.gcd (a : Int) (b : Int) : Int) = ((Nat.gcd a b : Nat) : Int) := rfl
set_option maxHeartbeats 1000000 in
theorem l06Phi_any (m : Nat) (w : World) (m1 : m ≤ 1000) :
    Calls Try.prog 46 #[(.int .i64 ((m : Int)))] w fun e w' => e = .returned (.int .i64 (((phiN m : Nat) : Int))) ∧ Below w.heap.size w w' := by
  unfold phiN
  go_enter Try.func46, Try.ntmps46
  go_wp2_with fail
  go_loopw [3, 4] (fun c i wr => ∃ k : Nat, c = (.int .i64 (((phiC m k : Nat) : Int))) ∧ i = (.int .i64 ((k : Int) + 1)) ∧ k ≤ m ∧ Below w.heap.size w wr) (fun _ i _ => m + 1 - (intOf i).toNat)
  case atStart => exact ⟨0, rfl, by go_num, Nat.zero_le _, Below.refl _ _⟩
  case round =>
    obtain ⟨k, rfl, rfl, hk, hb⟩ := hrel
    have hp := phiC_le m k
    by_cases hlt : k < m
    · have HG := Lib.hid (fun W => l01Gcd_any ((k : Int) + 1) m W (by omega) (by omega) (by omega) (by omega))
      have hgn : (Int.gcd ((k : Int) + 1) (m : Int) : Int) = ((Nat.gcd (k + 1) m : Nat) : Int) := igcd_nat (k + 1) m
      rw [hgn] at HG
      clear hgn
      by_cases hg : Nat.gcd (k + 1) m = 1
      · have HS := Lib.hid (show phiC m (k + 1) = phiC m k + 1 by simp [phiC, hg])
        rw [hg] at HG
        clear hg
        go_wp2_with fail
        refine (HG.out _).mono ?_; rintro e w1 ⟨rfl, hb1⟩
        go_wp2_with fail
        go_roundw
        case rel => exact ⟨k + 1, by rw [HS.out]; go_num, by go_num, by omega, hb.trans (hb1.mono hb.size)⟩
        case measure => simp [intOf]; omega
      · have HS := Lib.hid (show phiC m (k + 1) = phiC m k by simp [phiC, hg])
        have hg1 : (((Nat.gcd (k + 1) m : Nat) : Int) == 1) = false := by
          have : ((Nat.gcd (k + 1) m : Nat) : Int) ≠ 1 := by exact_mod_cast hg
          simpa using this
        generalize Nat.gcd (k + 1) m = g at *
        clear hg
        go_wp2_with fail
        refine (HG.out _).mono ?_; rintro e w1 ⟨rfl, hb1⟩
        go_wp2_with fail
        go_roundw
        case rel => exact ⟨k + 1, by rw [HS.out], by go_num, by omega, hb.trans (hb1.mono hb.size)⟩
        case measure => simp [intOf]; omega
    · obtain rfl : k = m := by omega
      go_wp2_with fail
      go_ret
      exact ⟨rfl, hb⟩
set_option maxHeartbeats 1000000 in
theorem sCountCusps_any (n : Int) (w : World) :
    Calls Try.prog 14 #[(.int .i64 n)] w fun e w' => e = .returned (.tuple #[(.int .i64 ((cuspRes n).1)), (.int .i64 ((cuspRes n).2))]) ∧ Below w.heap.size w w' := by
  have H1 := Lib.hid (fun W => l01In_any n 1 1000 W)
  cases hn : inB n 1 1000
  · rw [show cuspRes n = (0, 2) by simp [cuspRes, hn]]
    rw [hn] at H1
    go_enter Try.func14, Try.ntmps14
    go_wp2_with fail
    refine (H1.out _).mono ?_; rintro e w' ⟨rfl, rfl⟩
    go_wp2_with fail
    go_ret2
    exact ⟨rfl, Below.refl _ _⟩
  rw [hn] at H1
  rw [show cuspRes n = (((cuspS n.toNat n.toNat : Nat) : Int), 0) by simp [cuspRes, hn]]
  obtain ⟨n0, n1⟩ := inB_iff.1 hn
  clear hn
  obtain ⟨N, rfl⟩ := Int.eq_ofNat_of_zero_le (show 0 ≤ n by omega)
  rw [Int.toNat_natCast]
  have N0 : 0 < N := by omega
  have N1 : N ≤ 1000 := by omega
  go_enter Try.func14, Try.ntmps14
  go_wp2_with fail
  refine (H1.out _).mono ?_; rintro e w' ⟨rfl, rfl⟩
  go_wp2_with fail
  go_loopw [4, 5] (fun c i wr => ∃ d : Nat, c = (.int .i64 (((cuspS N d : Nat) : Int))) ∧ i = (.int .i64 ((d : Int) + 1)) ∧ d ≤ N ∧ Below w.heap.size w wr) (fun _ i _ => N + 1 - (intOf i).toNat)
  case atStart => exact ⟨0, rfl, by go_num, Nat.zero_le _, Below.refl _ _⟩
  case round =>
    obtain ⟨d, rfl, rfl, hd, hb⟩ := hrel
    have hp := cuspS_le N0 N1 d
    by_cases hlt : d < N
    · by_cases hm : N % (d + 1) = 0
      · have HS := Lib.hid (cuspS_yes hm)
        have hgb := gcd_small N0 N1 (show 0 < d + 1 by omega) hm
        obtain ⟨t1, t2⟩ := mod_no hm
        have hp2 := phiC_le (Nat.gcd (d + 1) (N / (d + 1))) (Nat.gcd (d + 1) (N / (d + 1)))
        have hp2 : phiN (Nat.gcd (d + 1) (N / (d + 1))) ≤ Nat.gcd (d + 1) (N / (d + 1)) := hp2
        have hq0 : 0 ≤ (N : Int) / ((d : Int) + 1) := Int.ediv_nonneg (by omega) (by omega)
        have hq1 : (N : Int) / ((d : Int) + 1) ≤ 1000 := (ediv_bd (b := (d : Int) + 1) (K := 1000) (by omega) (show -1000 ≤ (N : Int) by omega) (by omega)).2
        have HG := Lib.hid (fun W => l01Gcd_any ((d : Int) + 1) ((N : Int) / ((d : Int) + 1)) W (by omega) (by omega) (by omega) (by omega))
        have hgn : (Int.gcd ((d : Int) + 1) ((N : Int) / ((d : Int) + 1)) : Int) = ((Nat.gcd (d + 1) (N / (d + 1)) : Nat) : Int) := igcd_nat (d + 1) (N / (d + 1))
        rw [hgn] at HG
        clear hgn hm
        obtain ⟨g0, g1⟩ := hgb
        have HF := Lib.hid (fun W => l06Phi_any (Nat.gcd (d + 1) (N / (d + 1))) W (by omega))
        generalize Nat.gcd (d + 1) (N / (d + 1)) = g at *
        push_cast at t1 t2
        go_wp2_with fail
        refine (HG.out _).mono ?_; rintro e w1 ⟨rfl, hb1⟩
        go_wp2_with fail
        refine (HF.out _).mono ?_; rintro e w2 ⟨rfl, hb2⟩
        go_wp2_with fail
        go_roundw
        case rel => exact ⟨d + 1, by rw [HS.out]; go_num, by go_num, by omega, (hb.trans (hb1.mono hb.size)).trans (hb2.mono (Nat.le_trans hb.size hb1.size))⟩
        case measure => simp [intOf]; omega
      · have HS := Lib.hid (cuspS_no hm)
        obtain ⟨t1, t2⟩ := mod_yes hm
        push_cast at t1 t2
        clear hm
        go_wp2_with fail
        go_roundw
        case rel => exact ⟨d + 1, by rw [HS.out], by go_num, by omega, hb⟩
        case measure => simp [intOf]; omega
    · obtain rfl : d = N := by omega
      go_wp2_with fail
      go_ret2
      exact ⟨rfl, hb⟩
set_option maxRecDepth 100000 in
set_option maxHeartbeats 2000000 in
theorem CountCusps_any (n : Int) (w : World) :
    Calls Try.prog 13 #[(.int .i64 n)] w fun e w' => e = .returned (.tuple #[(.int .i64 ((cuspRes n).1)), (.int .i64 ((cuspRes n).2))]) ∧ Below w.heap.size w w' := by
  have H1 := Lib.hid (fun W => within_any n 1 1000 W)
  cases hn : inB n 1 1000
  · rw [show cuspRes n = (0, 2) by simp [cuspRes, hn]]
    rw [hn] at H1
    go_enter Try.func13, Try.ntmps13
    go_wp2_with fail
    refine (H1.out _).mono ?_; rintro e w' ⟨rfl, rfl⟩
    go_wp2_with fail
    go_ret2
    exact ⟨rfl, Below.refl _ _⟩
  rw [hn] at H1
  rw [show cuspRes n = (((cuspS n.toNat n.toNat : Nat) : Int), 0) by simp [cuspRes, hn]]
  obtain ⟨n0, n1⟩ := inB_iff.1 hn
  clear hn
  obtain ⟨N, rfl⟩ := Int.eq_ofNat_of_zero_le (show 0 ≤ n by omega)
  rw [Int.toNat_natCast]
  have N0 : 0 < N := by omega
  have N1 : N ≤ 1000 := by omega
  go_enter Try.func13, Try.ntmps13
  go_wp2_with fail
  refine (H1.out _).mono ?_; rintro e w' ⟨rfl, rfl⟩
  go_wp2_with fail
  go_loopw [4, 5] (fun c i wr => ∃ d : Nat, c = (.int .i64 (((cuspS N d : Nat) : Int))) ∧ i = (.int .i64 ((d : Int) + 1)) ∧ d ≤ N ∧ Below w.heap.size w wr) (fun _ i _ => N + 1 - (intOf i).toNat)
  case atStart => exact ⟨0, rfl, by go_num, Nat.zero_le _, Below.refl _ _⟩
  case round =>
    obtain ⟨d, rfl, rfl, hd, hb⟩ := hrel
    have hp := cuspS_le N0 N1 d
    by_cases hlt : d < N
    · by_cases hm : N % (d + 1) = 0
      · have HS := Lib.hid (cuspS_yes hm)
        have hgb := gcd_small N0 N1 (show 0 < d + 1 by omega) hm
        obtain ⟨t1, t2⟩ := mod_no hm
        have hq0 : 0 ≤ (N : Int) / ((d : Int) + 1) := Int.ediv_nonneg (by omega) (by omega)
        have hq1 : (N : Int) / ((d : Int) + 1) ≤ 1000 := (ediv_bd (b := (d : Int) + 1) (K := 1000) (by omega) (show -1000 ≤ (N : Int) by omega) (by omega)).2
        have HG := Lib.hid (fun W => divisor_any ((d : Int) + 1) ((N : Int) / ((d : Int) + 1)) W (by omega) (by omega) (by omega) (by omega))
        have hgn : (Int.gcd ((d : Int) + 1) ((N : Int) / ((d : Int) + 1)) : Int) = ((Nat.gcd (d + 1) (N / (d + 1)) : Nat) : Int) := igcd_nat (d + 1) (N / (d + 1))
        rw [hgn] at HG
        clear hgn hm
        obtain ⟨g0, g1⟩ := hgb
        generalize Nat.gcd (d + 1) (N / (d + 1)) = g at *
        have HU := Lib.hid (fun W => primesOf_any g W g0 (by omega))
        have hO := phiOk_of g0 (show g ≤ 40 by omega)
        simp only [phiOk, Bool.and_eq_true, decide_eq_true_eq] at hO
        have HC := Lib.hid hO.1
        have HR := Lib.hid (show fTimes gPhi g (primesL g) = phiN g from hO.2)
        have hp3 : phiN g ≤ g := phiC_le g g
        clear hO
        generalize primesL g = L at *
        generalize phiN g = R at *
        push_cast at t1 t2
        go_wp2_with fail
        refine (HG.out _).mono ?_; rintro e w1 ⟨rfl, hb1⟩
        go_wp2_with fail
        refine (HU.out _).mono ?_; rintro e w2 ⟨v, rfl, hown, hb2⟩
        obtain ⟨A, cap, rfl, hcap, hmax, hat⟩ := own_view hown
        have hB2 := (hb.trans (hb1.mono hb.size)).trans (hb2.mono (Nat.le_trans hb.size hb1.size))
        unfold maxLen at hmax
        clear hown hb1 hb2
        go_wp2_with fail
        go_loop [6, 29] (fun s i => ∃ j o : Nat, s = (.int .i64 ((o : Int))) ∧ i = (.int .i64 ((j : Int))) ∧ j ≤ L.length ∧ Hid (chk gPhi 1000 o (L.drop j) = true ∧ fTimes gPhi o (L.drop j) = R)) (fun _ i => L.length - (intOf i).toNat)
        case atStart => exact ⟨0, g, rfl, rfl, Nat.zero_le _, Lib.hid ⟨HC.out, HR.out⟩⟩
        case round =>
          obtain ⟨j, o, rfl, rfl, hj, HP⟩ := hrel
          by_cases hlt2 : j < L.length
          · obtain ⟨b, rfl, -, hbl, hc, -⟩ := hat (by omega)
            have hcj := hc j _ (castL_at hlt2)
            have HD := Lib.hid (List.drop_eq_getElem_cons hlt2)
            generalize L[j] = p at hcj HD
            have HSt : Hid (ChkStep gPhi 1000 o p (L.drop (j + 1))) := Lib.hid (chk_step (by rw [← HD.out]; exact HP.out.1))
            have HF : Hid (fTimes gPhi (gPhi o p) (L.drop (j + 1)) = R) := Lib.hid (by have := HP.out.2; rw [HD.out] at this; exact this)
            have o1 := HSt.out.o
            have p1 := HSt.out.p1
            have p2 := HSt.out.p2
            have HX := Lib.hid (gPhi_cast (o := o) p1)
            have hx := HSt.out.n
            have hx2 : 0 ≤ (o : Int) / (p : Int) * ((p : Int) - 1) ∧ (o : Int) / (p : Int) * ((p : Int) - 1) ≤ 1000000000 := by rw [← HX.out]; omega
            obtain ⟨d1, d2⟩ := div_bd (o := (o : Int)) (q := (p : Int)) (by omega) (by omega) (by omega)
            obtain ⟨x1, x2⟩ := hx2
            clear hc hat hx
            go_wp2_with fail
            go_round
            case rel => exact ⟨j + 1, gPhi o p, by rw [HX.out], by go_num, by omega, Lib.hid ⟨HSt.out.next, HF.out⟩⟩
            case measure => simp [intOf]; omega
          · obtain rfl : j = L.length := by omega
            have HE := Lib.hid (show o = R by have := HP.out.2; rw [List.drop_length] at this; exact this)
            have ho : o ≤ 31 := by rw [HE.out]; omega
            clear hat
            go_wp2_with fail
            go_roundw
            case rel => exact ⟨d + 1, by rw [HS.out, ← HE.out]; go_num, by go_num, by omega, hB2⟩
            case measure => simp [intOf]; omega
      · have HS := Lib.hid (cuspS_no hm)
        obtain ⟨t1, t2⟩ := mod_yes hm
        push_cast at t1 t2
        clear hm
        go_wp2_with fail
        go_roundw
        case rel => exact ⟨d + 1, by rw [HS.out], by go_num, by omega, hb⟩
        case measure => simp [intOf]; omega
    · obtain rfl : d = N := by omega
      go_wp2_with fail
      go_ret2
      exact ⟨rfl, hb⟩
end Go.Proofs.Ytjkemnnkgihefaa
