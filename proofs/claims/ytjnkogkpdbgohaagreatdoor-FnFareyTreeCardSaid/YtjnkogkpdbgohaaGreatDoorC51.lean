/- Contracts: prime divisors. -/
import Derived.Test.YtjnkogkpdbgohaaGreatDoorR1
import Derived.Test.YtjnkogkpdbgohaaGreatDoorCa
import Derived.Test.YtjnkogkpdbgohaaGreatDoorNa
namespace Go.Proofs.YtjnkogkpdbgohaaGreatDoor
open Go.RowKit
theorem elI : Elem Tryz.prog 55 2 (.int .i64 0) 1 8 := elem_of Tryz.underlying55 (by kernel_rfl) rfl (by omega) (by omega)
def castL (l : List Nat) : List Int := l.map fun p : Nat => (p : Int)
theorem castL_len (l : List Nat) : (castL l).length = l.length := by simp [castL]
theorem castL_snoc (l : List Nat) (p : Nat) : castL (l ++ [p]) = castL l ++ [(p : Int)] := by simp [castL]
theorem mod_no {m q : Nat} (h : m % q = 0) : ((m : Int) % (q : Int) != 0) = false ∧ ((m : Int) % (q : Int) == 0) = true := by
  have e : (m : Int) % (q : Int) = 0 := by exact_mod_cast h
  simp [e]
theorem mod_yes {m q : Nat} (h : m % q ≠ 0) : ((m : Int) % (q : Int) != 0) = true ∧ ((m : Int) % (q : Int) == 0) = false := by
  have e : (m : Int) % (q : Int) ≠ 0 := by exact_mod_cast h
  simp [e]
theorem PF.inv_take {m q : Nat} {l : List Nat} (h : PF m q l) (h1 : 1 < m) (h2 : m % q = 0) : ∃ m' l', l = q :: l' ∧ Strip q m m' ∧ PF m' (q + 1) l' := by
  cases h with
  | done h => omega
  | skip _ h3 => exact absurd h2 h3
  | take _ _ h5 h6 => exact ⟨_, _, rfl, h5, h6⟩
theorem PF.inv_skip {m q : Nat} {l : List Nat} (h : PF m q l) (h1 : 1 < m) (h2 : m % q ≠ 0) : PF m (q + 1) l := by
  cases h with
  | done h => omega
  | skip _ _ h3 => exact h3
  | take _ h4 => exact absurd h4 h2
theorem PF.inv_done {m q : Nat} {l : List Nat} (h : PF m q l) (h1 : m ≤ 1) : l = [] := by
  cases h with
  | done h => rfl
  | skip h => omega
  | take h => omega
theorem Strip.inv_go {p n m : Nat} (h : Strip p n m) (h1 : n % p = 0) : Strip p (n / p) m := by
  cases h with
  | stop h => exact absurd h1 h
  | go _ h => exact h
theorem Strip.inv_stop {p n m : Nat} (h : Strip p n m) (h1 : n % p ≠ 0) : n = m := by
  cases h with
  | stop h => rfl
  | go h => exact absurd h h1
/-- What holds at the head of a round: the primes found, those still to come. -/
structure PrInv (w wr : World) (v : Value) (L : List Nat) (m q : Nat) (acc l : List Nat) : Prop where
  own : wr.ownsRow w.heap.size 2 1 v acc.length (ints (castL acc))
  eq : L = acc ++ l
  pf : PF m q l
  nd : NoDiv m q
theorem PrInv.grow {w wr w2 : World} {v v' : Value} {L : List Nat} {m q m' : Nat} {acc l l' : List Nat} (_h : PrInv w wr v L m q acc l) (hL : L = acc ++ q :: l') (hp : PF m' (q + 1) l') (hn : NoDiv m' (q + 1))
    (ho : w2.ownsRow w.heap.size 2 1 v' (acc.length + 1) (ints (castL acc) ++ [.int .i64 (q : Int)])) : PrInv w w2 v' L m' (q + 1) (acc ++ [q]) l' :=
  ⟨by rw [castL_snoc]; simpa [ints] using ho, by rw [hL]; simp, hp, hn⟩
set_option maxRecDepth 100000 in
set_option maxHeartbeats 2000000 in
theorem primesOf_any (N : Nat) (w : World) (n0 : 0 < N) (n1 : N ≤ 1000) :
    Calls Tryz.prog 38 #[(.int .i64 ((N : Int)))] w fun e w' => ∃ v, e = .returned v ∧ w'.ownsRow w.heap.size 2 1 v (primesL N).length (ints (castL (primesL N))) ∧ Below w.heap.size w w' := by
  have HP := Lib.hid (primesL_ok n0 n1)
  generalize primesL N = L at *
  go_enter Tryz.func38, Tryz.ntmps38
  go_wp2_with fail
  go_loopw [0, 3, 4] (fun n v p wr => ∃ m q : Nat, n = (.int .i64 ((m : Int))) ∧ p = (.int .i64 ((q : Int))) ∧ 1 ≤ m ∧ m ≤ N ∧ 2 ≤ q ∧ q ≤ N + 1 ∧ Hid (∃ acc l, PrInv w wr v L m q acc l ∧ acc.length ≤ q) ∧ Below w.heap.size w wr) (fun n _ p _ => (intOf n).toNat + (N + 2) - (intOf p).toNat)
  case atStart => exact ⟨N, 2, rfl, rfl, n0, Nat.le_refl _, Nat.le_refl _, by omega, Lib.hid ⟨[], L, ⟨World.ownsRow_lit w #[] 0 (Nat.le_refl _) (by simp [maxLen]) rfl, rfl, HP.out, NoDiv.two N⟩, by simp⟩, by go_grown⟩
  case round =>
    obtain ⟨m, q, rfl, rfl, m0, m1, q0, q1, HR, hb⟩ := hrel
    have hsz := hb.size
    by_cases hm : 1 < m
    · by_cases hj : (m : Int) < (q : Int) * (q : Int)
      · have hjN : m < q * q := by exact_mod_cast hj
        have HT : Hid (∃ acc m' l', PrInv w wr u3 L m m acc (m :: l') ∧ acc.length ≤ q ∧ Strip m m m' ∧ PF m' (m + 1) l' ∧ NoDiv m' (m + 1)) := by
          obtain ⟨acc, l, h, hal⟩ := HR.out
          have hp := h.pf.jumped hm q0 h.nd hjN
          have hnd : NoDiv m m := fun d h2 hd => h.nd.prime hjN d h2 hd
          obtain ⟨m', l', rfl, hs, hpf⟩ := hp.inv_take hm (Nat.mod_self m)
          exact Lib.hid ⟨acc, m', l', ⟨h.own, h.eq, hp, hnd⟩, hal, hs, hpf, hnd.strip hs⟩
        obtain ⟨acc, M, l', HT⟩ := HT.out
        have hal := HT.2.1
        have hqm : q ≤ m := by obtain ⟨_, _, h, _⟩ := HR.out; exact h.nd.le hm
        have HT := Lib.hid HT
        obtain ⟨t1, t2⟩ := mod_no (Nat.mod_self m)
        have hqq := mul_bd (a := (q : Int)) (b := (q : Int)) (A := 1001) (B := 1001) (by omega) (by omega) (by omega) (by omega)
        obtain ⟨hq0, hq1⟩ := hqq
        clear HR
        go_wp2_with (at_builtin; refine app_one elI rfl _ _ rfl rfl rfl (by simp) (HT.out.1.own) (hb) rfl (by intro u hu; simp at hu; first | (subst hu; rfl) | (rcases hu with rfl | rfl <;> rfl) | (rcases hu with rfl | rfl | rfl <;> rfl) | (rcases hu with rfl | rfl | rfl | rfl <;> rfl)) (hsz) (by omega) ?_; intro v' w2 hown2 hb2 hg2; have HO2 := Lib.hid hown2; clear hown2 hg2)
        go_loopw [0] (fun n wr' => ∃ m1 : Nat, n = (.int .i64 ((m1 : Int))) ∧ 1 ≤ m1 ∧ m1 ≤ m ∧ Hid (Strip m m1 M) ∧ w2 = wr') (fun n _ => (intOf n).toNat)
        case atStart => exact ⟨m, rfl, by omega, Nat.le_refl _, Lib.hid HT.out.2.2.1, rfl⟩
        case round =>
          obtain ⟨m1, rfl, h1, h2, HS, rfl⟩ := hrel
          by_cases hd1 : m1 % m = 0
          · obtain ⟨s1, s2⟩ := mod_no hd1
            have HS2 := Lib.hid (HS.out.inv_go hd1)
            have hpos := HS2.out
            have hlt : m1 / m < m1 := Nat.div_lt_self (by omega) (by omega)
            have hge : 1 ≤ m1 / m := by
              have := Nat.div_mul_cancel (Nat.dvd_of_mod_eq_zero hd1)
              refine Nat.pos_of_ne_zero fun e => ?_
              rw [e] at this; omega
            have HQ := Lib.hid (show (m1 : Int) / (m : Int) = ((m1 / m : Nat) : Int) by push_cast; rfl)
            clear hpos hd1
            go_wp2_with fail
            go_roundw
            case rel => exact ⟨m1 / m, by rw [HQ.out], hge, by omega, HS2, trivial⟩
            case measure => simp only [intOf, HQ.out]; simp; omega
          · obtain ⟨s1, s2⟩ := mod_yes hd1
            have HS2 := Lib.hid (HS.out.inv_stop hd1)
            clear hd1
            go_wp2_with fail
            go_roundw
            case rel => exact ⟨m1, m + 1, rfl, by go_num, h1, by omega, by omega, by omega, Lib.hid ⟨acc ++ [m], l', HT.out.1.grow HT.out.1.eq (by rw [HS2.out]; exact HT.out.2.2.2.1) (by rw [HS2.out]; exact HT.out.2.2.2.2) HO2.out, by simp; omega⟩, hb2⟩
            case measure => simp [intOf]; omega
      · have hjN : ¬ m < q * q := fun h => hj (by exact_mod_cast h)
        have hqq := mul_bd (a := (q : Int)) (b := (q : Int)) (A := 1001) (B := 1001) (by omega) (by omega) (by omega) (by omega)
        obtain ⟨hq0, hq1⟩ := hqq
        have hqm : q ≤ m := by obtain ⟨_, _, h, _⟩ := HR.out; exact h.nd.le hm
        by_cases hd : m % q = 0
        · have HT : Hid (∃ acc m' l', PrInv w wr u3 L m q acc (q :: l') ∧ acc.length ≤ q ∧ Strip q m m' ∧ PF m' (q + 1) l' ∧ NoDiv m' (q + 1)) := by
            obtain ⟨acc, l, h, hal⟩ := HR.out
            obtain ⟨m', l', rfl, hs, hpf⟩ := h.pf.inv_take hm hd
            exact Lib.hid ⟨acc, m', l', h, hal, hs, hpf, h.nd.strip hs⟩
          obtain ⟨acc, M, l', HT⟩ := HT.out
          have hal := HT.2.1
          have HT := Lib.hid HT
          obtain ⟨t1, t2⟩ := mod_no hd
          clear HR hjN hd
          go_wp2_with (at_builtin; refine app_one elI rfl _ _ rfl rfl rfl (by simp) (HT.out.1.own) (hb) rfl (by intro u hu; simp at hu; first | (subst hu; rfl) | (rcases hu with rfl | rfl <;> rfl) | (rcases hu with rfl | rfl | rfl <;> rfl) | (rcases hu with rfl | rfl | rfl | rfl <;> rfl)) (hsz) (by omega) ?_; intro v' w2 hown2 hb2 hg2; have HO2 := Lib.hid hown2; clear hown2 hg2)
          go_loopw [0] (fun n wr' => ∃ m1 : Nat, n = (.int .i64 ((m1 : Int))) ∧ 1 ≤ m1 ∧ m1 ≤ m ∧ Hid (Strip q m1 M) ∧ w2 = wr') (fun n _ => (intOf n).toNat)
          case atStart => exact ⟨m, rfl, by omega, Nat.le_refl _, Lib.hid HT.out.2.2.1, rfl⟩
          case round =>
            obtain ⟨m1, rfl, h1, h2, HS, rfl⟩ := hrel
            by_cases hd1 : m1 % q = 0
            · obtain ⟨s1, s2⟩ := mod_no hd1
              have HS2 := Lib.hid (HS.out.inv_go hd1)
              have hpos := HS2.out
              have hlt : m1 / q < m1 := Nat.div_lt_self (by omega) (by omega)
              have hge : 1 ≤ m1 / q := by
                have := Nat.div_mul_cancel (Nat.dvd_of_mod_eq_zero hd1)
                refine Nat.pos_of_ne_zero fun e => ?_
                rw [e] at this; omega
              have HQ := Lib.hid (show (m1 : Int) / (q : Int) = ((m1 / q : Nat) : Int) by push_cast; rfl)
              clear hpos hd1
              go_wp2_with fail
              go_roundw
              case rel => exact ⟨m1 / q, by rw [HQ.out], hge, by omega, HS2, trivial⟩
              case measure => simp only [intOf, HQ.out]; simp; omega
            · obtain ⟨s1, s2⟩ := mod_yes hd1
              have HS2 := Lib.hid (HS.out.inv_stop hd1)
              clear hd1
              go_wp2_with fail
              go_roundw
              case rel => exact ⟨m1, q + 1, rfl, by go_num, h1, by omega, by omega, by omega, Lib.hid ⟨acc ++ [q], l', HT.out.1.grow HT.out.1.eq (by rw [HS2.out]; exact HT.out.2.2.2.1) (by rw [HS2.out]; exact HT.out.2.2.2.2) HO2.out, by simp; omega⟩, hb2⟩
              case measure => simp [intOf]; omega
        · have HT : Hid (∃ acc l, PrInv w wr u3 L m (q + 1) acc l ∧ acc.length ≤ q + 1) := by
            obtain ⟨acc, l, h, hal⟩ := HR.out
            exact Lib.hid ⟨acc, l, ⟨h.own, h.eq, h.pf.inv_skip hm hd, h.nd.skip hd⟩, by omega⟩
          obtain ⟨t1, t2⟩ := mod_yes hd
          clear HR hjN hd
          go_wp2_with fail
          go_roundw
          case rel => exact ⟨m, q + 1, rfl, by go_num, by omega, by omega, by omega, by omega, Lib.hid HT.out, hb⟩
          case measure => simp [intOf]; omega
    · have HE : Hid (∃ acc, wr.ownsRow w.heap.size 2 1 u3 acc.length (ints (castL acc)) ∧ L = acc) := by
        obtain ⟨acc, l, h, _⟩ := HR.out
        have e := h.pf.inv_done (by omega)
        subst e
        exact Lib.hid ⟨acc, h.own, by simpa using h.eq⟩
      go_wp2_with fail
      go_ret
      obtain ⟨acc, h1, h2⟩ := HE.out
      exact ⟨_, rfl, by rw [h2]; exact h1, hb⟩
end Go.Proofs.YtjnkogkpdbgohaaGreatDoor
